/- Contracts of the functions that the law 'ModelEdits' reaches, part 8. No condition. -/
import Derived.Test.YtgjpohhafmkhcaaMMEsg
set_option linter.unusedVariables false
set_option linter.unusedSimpArgs false
namespace Go.Proofs.Ytgjpohhafmkhcaa
open Go.RowKit L02 L13 L18 L20
set_option maxRecDepth 100000 in
set_option maxHeartbeats 16000000 in
theorem ModelEdits_walk (tv ov sv : Value) (m : Mo) (a0 b0 a1 b1 fi : Int) (x : UInt64) (w : World) (h : Mod w tv ov sv m) (_f1 : -9223372036854775808 ≤ a0 ∧ a0 ≤ 9223372036854775807) (_f2 : -9223372036854775808 ≤ b0 ∧ b0 ≤ 9223372036854775807) (_f3 : -9223372036854775808 ≤ a1 ∧ a1 ≤ 9223372036854775807) (_f4 : -9223372036854775808 ≤ b1 ∧ b1 ≤ 9223372036854775807) (_f5 : -9223372036854775808 ≤ fi ∧ fi ≤ 9223372036854775807) :
    Calls Try.prog 7 #[.agg #[tv, ov, sv], .agg #[.int .i64 a0, .int .i64 b0], .agg #[.int .i64 a1, .int .i64 b1], .int .i64 fi, .int .u64 x.toNat] w fun e w' => e = .returned (.bool true) ∧ Below w.heap.size w w' := by
  have B : Below w.heap.size w w := Below.refl _ _
  have hm := h
  have H := Lib.hid h
  clear _f1 _f2 _f3 _f4 _f5
  obtain ⟨⟨tA, tn, tc, rfl⟩, ⟨oA, on, oc, rfl⟩, ⟨sA, sn, sc, rfl⟩⟩ := h.forms
  obtain ⟨b, hb⟩ : ∃ b, b = decide (¬ Great m ∧ chk m = 0) := ⟨_, rfl⟩
  have FT := Lib.hid (fun w h => fit_any (.slice tA tn tc) (.slice oA on oc) (.slice sA sn sc) m b hb w h)
  obtain ⟨r0, hr0⟩ : ∃ r, r = rightErr m.slots a0 b0 := ⟨_, rfl⟩
  obtain ⟨r1, hr1⟩ : ∃ r, r = rightErr m.slots a1 b1 := ⟨_, rfl⟩
  have RT := Lib.hid (fun v w h => RightR_any v m.slots a0 b0 r0 hr0 w h)
  have RU := Lib.hid (fun v w h => RightR_any v m.slots a1 b1 r1 hr1 w h)
  clear h
  cases b
  · clear hb hr0 hr1
    go_enter Try.func7, Try.ntmps7
    go_upto_region 1 with (fail)
    refine wp_gen (fun Wv => Bx Wv (w.heap.size) (26) (#[.slice tA tn tc, .slice oA on oc, .slice sA sn sc]) ∧ Bx Wv (w.heap.size + 1) (28) (#[.int .i64 a0, .int .i64 b0]) ∧ Bx Wv (w.heap.size + 1 + 1) (28) (#[.int .i64 a1, .int .i64 b1]) ∧ Below w.heap.size w Wv) ⟨((((Bx.at_ (by simp)).alloc _).alloc _)), (((Bx.at_ (by simp)).alloc _)), ((Bx.at_ (by simp))), ((((Below.refl _ w).alloc (by simp <;> omega) _).alloc (by simp <;> omega) _).alloc (by simp <;> omega) _)⟩ ?_
    rintro wa1 ⟨g1, g2, g3, b⟩
    replace B := B.trans (b.mono B.size); clear b
    have c_g1 := g1.cell; have f_g1 := g1.free; have a_g1 := fun o => (g1.alloc o).cell; have d_g1 := fun o o2 => ((g1.alloc o).alloc o2).cell; have e_g1 := fun o => (g1.alloc o).free
    have c_g2 := g2.cell; have f_g2 := g2.free; have a_g2 := fun o => (g2.alloc o).cell; have d_g2 := fun o o2 => ((g2.alloc o).alloc o2).cell; have e_g2 := fun o => (g2.alloc o).free
    have c_g3 := g3.cell; have f_g3 := g3.free; have a_g3 := fun o => (g3.alloc o).cell; have d_g3 := fun o o2 => ((g3.alloc o).alloc o2).cell; have e_g3 := fun o => (g3.alloc o).free
    go_wp2_with fail
    refine (alive20_any _).mono ?_
    rintro e wa2 ⟨rfl, b⟩
    try clear c_g1 f_g1 a_g1 d_g1 e_g1
    replace g1 := g1.below b; have c_g1 := g1.cell; have f_g1 := g1.free; have a_g1 := fun o => (g1.alloc o).cell; have d_g1 := fun o o2 => ((g1.alloc o).alloc o2).cell; have e_g1 := fun o => (g1.alloc o).free; try clear c_g2 f_g2 a_g2 d_g2 e_g2
    replace g2 := g2.below b; have c_g2 := g2.cell; have f_g2 := g2.free; have a_g2 := fun o => (g2.alloc o).cell; have d_g2 := fun o o2 => ((g2.alloc o).alloc o2).cell; have e_g2 := fun o => (g2.alloc o).free; try clear c_g3 f_g3 a_g3 d_g3 e_g3
    replace g3 := g3.below b; have c_g3 := g3.cell; have f_g3 := g3.free; have a_g3 := fun o => (g3.alloc o).cell; have d_g3 := fun o o2 => ((g3.alloc o).alloc o2).cell; have e_g3 := fun o => (g3.alloc o).free; replace B := B.trans (b.mono B.size); clear b
    go_wp2_with fail
    refine (FT.out _ (H.out.below B)).mono ?_
    rintro e wa3 ⟨rfl, b⟩
    try clear c_g1 f_g1 a_g1 d_g1 e_g1
    replace g1 := g1.below b; have c_g1 := g1.cell; have f_g1 := g1.free; have a_g1 := fun o => (g1.alloc o).cell; have d_g1 := fun o o2 => ((g1.alloc o).alloc o2).cell; have e_g1 := fun o => (g1.alloc o).free; try clear c_g2 f_g2 a_g2 d_g2 e_g2
    replace g2 := g2.below b; have c_g2 := g2.cell; have f_g2 := g2.free; have a_g2 := fun o => (g2.alloc o).cell; have d_g2 := fun o o2 => ((g2.alloc o).alloc o2).cell; have e_g2 := fun o => (g2.alloc o).free; try clear c_g3 f_g3 a_g3 d_g3 e_g3
    replace g3 := g3.below b; have c_g3 := g3.cell; have f_g3 := g3.free; have a_g3 := fun o => (g3.alloc o).cell; have d_g3 := fun o o2 => ((g3.alloc o).alloc o2).cell; have e_g3 := fun o => (g3.alloc o).free; replace B := B.trans (b.mono B.size); clear b
    go_wp2
    go_ret
    exact ⟨rfl, B⟩
  by_cases h0 : r0 = 0
  case neg =>
    have n0 : (r0 != 0) = true := by rw [bne_iff_ne]; exact h0
    clear hb hr0 hr1
    go_enter Try.func7, Try.ntmps7
    go_upto_region 1 with (fail)
    refine wp_gen (fun Wv => Bx Wv (w.heap.size) (26) (#[.slice tA tn tc, .slice oA on oc, .slice sA sn sc]) ∧ Bx Wv (w.heap.size + 1) (28) (#[.int .i64 a0, .int .i64 b0]) ∧ Bx Wv (w.heap.size + 1 + 1) (28) (#[.int .i64 a1, .int .i64 b1]) ∧ Below w.heap.size w Wv) ⟨((((Bx.at_ (by simp)).alloc _).alloc _)), (((Bx.at_ (by simp)).alloc _)), ((Bx.at_ (by simp))), ((((Below.refl _ w).alloc (by simp <;> omega) _).alloc (by simp <;> omega) _).alloc (by simp <;> omega) _)⟩ ?_
    rintro wa1 ⟨g1, g2, g3, b⟩
    replace B := B.trans (b.mono B.size); clear b
    have c_g1 := g1.cell; have f_g1 := g1.free; have a_g1 := fun o => (g1.alloc o).cell; have d_g1 := fun o o2 => ((g1.alloc o).alloc o2).cell; have e_g1 := fun o => (g1.alloc o).free
    have c_g2 := g2.cell; have f_g2 := g2.free; have a_g2 := fun o => (g2.alloc o).cell; have d_g2 := fun o o2 => ((g2.alloc o).alloc o2).cell; have e_g2 := fun o => (g2.alloc o).free
    have c_g3 := g3.cell; have f_g3 := g3.free; have a_g3 := fun o => (g3.alloc o).cell; have d_g3 := fun o o2 => ((g3.alloc o).alloc o2).cell; have e_g3 := fun o => (g3.alloc o).free
    go_wp2_with fail
    refine (alive20_any _).mono ?_
    rintro e wa2 ⟨rfl, b⟩
    try clear c_g1 f_g1 a_g1 d_g1 e_g1
    replace g1 := g1.below b; have c_g1 := g1.cell; have f_g1 := g1.free; have a_g1 := fun o => (g1.alloc o).cell; have d_g1 := fun o o2 => ((g1.alloc o).alloc o2).cell; have e_g1 := fun o => (g1.alloc o).free; try clear c_g2 f_g2 a_g2 d_g2 e_g2
    replace g2 := g2.below b; have c_g2 := g2.cell; have f_g2 := g2.free; have a_g2 := fun o => (g2.alloc o).cell; have d_g2 := fun o o2 => ((g2.alloc o).alloc o2).cell; have e_g2 := fun o => (g2.alloc o).free; try clear c_g3 f_g3 a_g3 d_g3 e_g3
    replace g3 := g3.below b; have c_g3 := g3.cell; have f_g3 := g3.free; have a_g3 := fun o => (g3.alloc o).cell; have d_g3 := fun o o2 => ((g3.alloc o).alloc o2).cell; have e_g3 := fun o => (g3.alloc o).free; replace B := B.trans (b.mono B.size); clear b
    go_wp2_with fail
    refine (FT.out _ (H.out.below B)).mono ?_
    rintro e wa3 ⟨rfl, b⟩
    try clear c_g1 f_g1 a_g1 d_g1 e_g1
    replace g1 := g1.below b; have c_g1 := g1.cell; have f_g1 := g1.free; have a_g1 := fun o => (g1.alloc o).cell; have d_g1 := fun o o2 => ((g1.alloc o).alloc o2).cell; have e_g1 := fun o => (g1.alloc o).free; try clear c_g2 f_g2 a_g2 d_g2 e_g2
    replace g2 := g2.below b; have c_g2 := g2.cell; have f_g2 := g2.free; have a_g2 := fun o => (g2.alloc o).cell; have d_g2 := fun o o2 => ((g2.alloc o).alloc o2).cell; have e_g2 := fun o => (g2.alloc o).free; try clear c_g3 f_g3 a_g3 d_g3 e_g3
    replace g3 := g3.below b; have c_g3 := g3.cell; have f_g3 := g3.free; have a_g3 := fun o => (g3.alloc o).cell; have d_g3 := fun o o2 => ((g3.alloc o).alloc o2).cell; have e_g3 := fun o => (g3.alloc o).free; replace B := B.trans (b.mono B.size); clear b
    go_wp2_with fail
    refine (RT.out _ _ (H.out.below B).s).mono ?_
    rintro e wa4 ⟨rfl, b⟩
    try clear c_g1 f_g1 a_g1 d_g1 e_g1
    replace g1 := g1.below b; have c_g1 := g1.cell; have f_g1 := g1.free; have a_g1 := fun o => (g1.alloc o).cell; have d_g1 := fun o o2 => ((g1.alloc o).alloc o2).cell; have e_g1 := fun o => (g1.alloc o).free; try clear c_g2 f_g2 a_g2 d_g2 e_g2
    replace g2 := g2.below b; have c_g2 := g2.cell; have f_g2 := g2.free; have a_g2 := fun o => (g2.alloc o).cell; have d_g2 := fun o o2 => ((g2.alloc o).alloc o2).cell; have e_g2 := fun o => (g2.alloc o).free; try clear c_g3 f_g3 a_g3 d_g3 e_g3
    replace g3 := g3.below b; have c_g3 := g3.cell; have f_g3 := g3.free; have a_g3 := fun o => (g3.alloc o).cell; have d_g3 := fun o o2 => ((g3.alloc o).alloc o2).cell; have e_g3 := fun o => (g3.alloc o).free; replace B := B.trans (b.mono B.size); clear b
    go_wp2
    go_ret
    exact ⟨rfl, B⟩
  case pos =>
    obtain ⟨hng, hc⟩ := of_decide_eq_true hb.symm
    have hsm := small_of hng (by unfold Great at hng; omega)
    have ha : asked m a0 b0 = 0 := by rw [asked, if_pos hc, ← hr0, h0]
    obtain ⟨_, hre, k, s, n, o, t, rfl, hk16, hs, hu, hg, hso, hat, hown, ho, hob, hoo, ht, htt, hkinds, hfl⟩ := asked_ok ha
    subst h0
    have h16 := (chk_ok hc).2.2.1
    have hn : n < m.objs.length := (List.getElem?_eq_some_iff.1 ho).1
    obtain ⟨bs, qs, s', js, m0, m1, m2, hs'⟩ := hm.s.at_ (P := Try.prog) Try.underlying24 size_slot (k := k) (by omega)
    obtain rfl : s' = s := by have := hs'.out; rw [hs] at this; injection this with this; exact this.symm
    obtain ⟨bo, qo, xv, o', jo, m3, m4, ho', hW, _⟩ := hm.o.at_ (k := n) hn
    obtain rfl : o' = o := by have := ho'.out; rw [ho] at this; injection this with this; exact this.symm
    obtain ⟨xA, xn, xc, rfl⟩ : ∃ A n c, xv = .slice A n c := by obtain ⟨A, c, e, _⟩ := hW.out; exact ⟨_, _, _, e⟩
    have lx := Rd.len hW.out Try.underlying70
    have lo := hm.o.len
    rw [hat] at m2
    by_cases hfi : 0 ≤ fi ∧ fi < o'.fs.length
    case neg =>
      have GT := Lib.hid (fun t o s w h => Get20_any t o s m k b0 fi 0 2 (by rw [getV, getE, kErrF_arg ha (by rw [hkinds]; omega)]; rfl) (by rw [getE, kErrF_arg ha (by rw [hkinds]; omega)]; rfl) w h)
      obtain ⟨L, hL⟩ : ∃ L, L = o'.fs.length := ⟨_, rfl⟩
      rw [← hL] at lx
      have hq : fi < 0 ∨ (L : Int) ≤ fi := by omega
      clear hb hr0 hr1 hng hc hsm ha hre hs hu hg hso hat hown ho hob hoo ht htt hkinds hfl h16 hn hs' ho' hW hfi hL
      rcases hq with hq | hq
      all_goals
        go_enter Try.func7, Try.ntmps7
        go_upto_region 1 with (fail)
        refine wp_gen (fun Wv => Bx Wv (w.heap.size) (26) (#[.slice tA tn tc, .slice oA on oc, .slice sA sn sc]) ∧ Bx Wv (w.heap.size + 1) (28) (#[.int .i64 k, .int .i64 b0]) ∧ Bx Wv (w.heap.size + 1 + 1) (28) (#[.int .i64 a1, .int .i64 b1]) ∧ Below w.heap.size w Wv) ⟨((((Bx.at_ (by simp)).alloc _).alloc _)), (((Bx.at_ (by simp)).alloc _)), ((Bx.at_ (by simp))), ((((Below.refl _ w).alloc (by simp <;> omega) _).alloc (by simp <;> omega) _).alloc (by simp <;> omega) _)⟩ ?_
        rintro wa1 ⟨g1, g2, g3, b⟩
        replace m0 := cell_later b m0; replace m2 := cell_later b m2; replace m4 := cell_later b m4; replace B := B.trans (b.mono B.size); clear b
        have c_g1 := g1.cell; have f_g1 := g1.free; have a_g1 := fun o => (g1.alloc o).cell; have d_g1 := fun o o2 => ((g1.alloc o).alloc o2).cell; have e_g1 := fun o => (g1.alloc o).free
        have c_g2 := g2.cell; have f_g2 := g2.free; have a_g2 := fun o => (g2.alloc o).cell; have d_g2 := fun o o2 => ((g2.alloc o).alloc o2).cell; have e_g2 := fun o => (g2.alloc o).free
        have c_g3 := g3.cell; have f_g3 := g3.free; have a_g3 := fun o => (g3.alloc o).cell; have d_g3 := fun o o2 => ((g3.alloc o).alloc o2).cell; have e_g3 := fun o => (g3.alloc o).free
        go_wp2_with fail
        refine (alive20_any _).mono ?_
        rintro e wa2 ⟨rfl, b⟩
        replace m0 := cell_later b m0; replace m2 := cell_later b m2; replace m4 := cell_later b m4; try clear c_g1 f_g1 a_g1 d_g1 e_g1
        replace g1 := g1.below b; have c_g1 := g1.cell; have f_g1 := g1.free; have a_g1 := fun o => (g1.alloc o).cell; have d_g1 := fun o o2 => ((g1.alloc o).alloc o2).cell; have e_g1 := fun o => (g1.alloc o).free; try clear c_g2 f_g2 a_g2 d_g2 e_g2
        replace g2 := g2.below b; have c_g2 := g2.cell; have f_g2 := g2.free; have a_g2 := fun o => (g2.alloc o).cell; have d_g2 := fun o o2 => ((g2.alloc o).alloc o2).cell; have e_g2 := fun o => (g2.alloc o).free; try clear c_g3 f_g3 a_g3 d_g3 e_g3
        replace g3 := g3.below b; have c_g3 := g3.cell; have f_g3 := g3.free; have a_g3 := fun o => (g3.alloc o).cell; have d_g3 := fun o o2 => ((g3.alloc o).alloc o2).cell; have e_g3 := fun o => (g3.alloc o).free; replace B := B.trans (b.mono B.size); clear b
        go_wp2_with fail
        refine (FT.out _ (H.out.below B)).mono ?_
        rintro e wa3 ⟨rfl, b⟩
        replace m0 := cell_later b m0; replace m2 := cell_later b m2; replace m4 := cell_later b m4; try clear c_g1 f_g1 a_g1 d_g1 e_g1
        replace g1 := g1.below b; have c_g1 := g1.cell; have f_g1 := g1.free; have a_g1 := fun o => (g1.alloc o).cell; have d_g1 := fun o o2 => ((g1.alloc o).alloc o2).cell; have e_g1 := fun o => (g1.alloc o).free; try clear c_g2 f_g2 a_g2 d_g2 e_g2
        replace g2 := g2.below b; have c_g2 := g2.cell; have f_g2 := g2.free; have a_g2 := fun o => (g2.alloc o).cell; have d_g2 := fun o o2 => ((g2.alloc o).alloc o2).cell; have e_g2 := fun o => (g2.alloc o).free; try clear c_g3 f_g3 a_g3 d_g3 e_g3
        replace g3 := g3.below b; have c_g3 := g3.cell; have f_g3 := g3.free; have a_g3 := fun o => (g3.alloc o).cell; have d_g3 := fun o o2 => ((g3.alloc o).alloc o2).cell; have e_g3 := fun o => (g3.alloc o).free; replace B := B.trans (b.mono B.size); clear b
        go_wp2_with fail
        refine (RT.out _ _ (H.out.below B).s).mono ?_
        rintro e wa4 ⟨rfl, b⟩
        replace m0 := cell_later b m0; replace m2 := cell_later b m2; replace m4 := cell_later b m4; try clear c_g1 f_g1 a_g1 d_g1 e_g1
        replace g1 := g1.below b; have c_g1 := g1.cell; have f_g1 := g1.free; have a_g1 := fun o => (g1.alloc o).cell; have d_g1 := fun o o2 => ((g1.alloc o).alloc o2).cell; have e_g1 := fun o => (g1.alloc o).free; try clear c_g2 f_g2 a_g2 d_g2 e_g2
        replace g2 := g2.below b; have c_g2 := g2.cell; have f_g2 := g2.free; have a_g2 := fun o => (g2.alloc o).cell; have d_g2 := fun o o2 => ((g2.alloc o).alloc o2).cell; have e_g2 := fun o => (g2.alloc o).free; try clear c_g3 f_g3 a_g3 d_g3 e_g3
        replace g3 := g3.below b; have c_g3 := g3.cell; have f_g3 := g3.free; have a_g3 := fun o => (g3.alloc o).cell; have d_g3 := fun o o2 => ((g3.alloc o).alloc o2).cell; have e_g3 := fun o => (g3.alloc o).free; replace B := B.trans (b.mono B.size); clear b
        go_wp2_with fail
        refine (GT.out _ _ _ _ (H.out.below B)).mono ?_
        rintro e wa5 ⟨rfl, b⟩
        replace m0 := cell_later b m0; replace m2 := cell_later b m2; replace m4 := cell_later b m4; try clear c_g1 f_g1 a_g1 d_g1 e_g1
        replace g1 := g1.below b; have c_g1 := g1.cell; have f_g1 := g1.free; have a_g1 := fun o => (g1.alloc o).cell; have d_g1 := fun o o2 => ((g1.alloc o).alloc o2).cell; have e_g1 := fun o => (g1.alloc o).free; try clear c_g2 f_g2 a_g2 d_g2 e_g2
        replace g2 := g2.below b; have c_g2 := g2.cell; have f_g2 := g2.free; have a_g2 := fun o => (g2.alloc o).cell; have d_g2 := fun o o2 => ((g2.alloc o).alloc o2).cell; have e_g2 := fun o => (g2.alloc o).free; try clear c_g3 f_g3 a_g3 d_g3 e_g3
        replace g3 := g3.below b; have c_g3 := g3.cell; have f_g3 := g3.free; have a_g3 := fun o => (g3.alloc o).cell; have d_g3 := fun o o2 => ((g3.alloc o).alloc o2).cell; have e_g3 := fun o => (g3.alloc o).free; replace B := B.trans (b.mono B.size); clear b
        go_wp2
        go_ret
        exact ⟨rfl, B⟩
    case pos =>
      obtain ⟨i, rfl⟩ := Int.eq_ofNat_of_zero_le hfi.1
      have hi : i < o'.fs.length := by omega
      obtain ⟨kd, x0, E⟩ := Ed.of hc hre hs hu hg hat ho hob hoo hown ht htt hkinds hfl hi
      obtain ⟨L, hL⟩ : ∃ L, L = o'.fs.length := ⟨_, rfl⟩
      obtain ⟨N, hN⟩ : ∃ N, N = m.objs.length := ⟨_, rfl⟩
      rw [← hL] at lx; rw [← hN] at lo
      have n1 : ¬ (i : Int) < 0 := by omega
      have n2 : ¬ (L : Int) ≤ (i : Int) := by omega
      have n_N : ¬ (N : Int) ≤ (n : Int) := by omega
      have hnN : n < N := by omega
      have hiL : i < L := by omega
      have EE := Lib.hid (And.intro E (And.intro hsm (And.intro hL hN)))
      clear hb hr0 hng hc hsm ha hre hs hu hg hso hat hown ho hob hoo ht htt hkinds hfl h16 hn hs' ho' hfi hi hL hN
      by_cases h3 : kd.toNat = 3
      case neg =>
        obtain ⟨v, hv⟩ : ∃ v, v = setV kd x := ⟨_, rfl⟩
        have hor := setV_or kd x
        rw [← hv] at hor
        have hvo : FdOk m.objs.length kd v := by rw [hv]; exact setV_ok h3
        have E2 := E.put hvo
        have hGa := E.get h3
        have hGb := E2.get h3
        have GA := Lib.hid (fun t o s w h => Get20_any t o s m k b0 i x0 0 hGa.2.symm hGa.1.symm w h)
        have SA := Lib.hid (fun t o s w h => Set20_any t o s m k b0 i x (putF m n i v) 0 (by rw [hv]; exact (E.set h3).symm) hGa.1.symm w h)
        have GB := Lib.hid (fun t o s w h => Get20_any t o s (putF m n i v) k b0 i v 0 hGb.2.symm hGb.1.symm w h)
        have SB := Lib.hid (fun t o s w h => Set20_any t o s (putF m n i v) k b0 i x0 m 0 (by rw [E2.set h3, setV_id E.hfd]; exact E.back.symm) hGb.1.symm w h)
        have KA := Lib.hid (fun t o s w h => Check20_any t o s (putF m n i v) 0 E2.hc.symm w h)
        have SM := Lib.hid (fun ta oa sa tb ob sb w ha hb => Same20_any ta oa sa tb ob sb m m true (by simp) w ha hb)
        have BT := Lib.hid (fun ta oa sa tb ob sb w ha hb => but_any ta oa sa tb ob sb m n i v o' x0 EE.out.2.1 E.ho E.hx w ha hb)
        obtain ⟨M3, hM3⟩ : ∃ M, M = refM m k b0 i (some (a1, b1)) := ⟨_, rfl⟩
        have SR := Lib.hid (fun t o s pv w h h2 => SetRef20_any t o s m k b0 i pv (some (a1, b1)) M3 42 hM3 (E.ref_no _ h3).symm w h h2)
        obtain ⟨ta, hta⟩ := Int.eq_ofNat_of_zero_le E.hty.1
        have hta2 : m.types[ta]? = some t := by have := E.ht; rw [hta] at this; exact this
        rw [hta] at m3
        obtain ⟨at_, yv, t', jt, m5, ht', hY⟩ := hm.t.at_ (k := ta) (List.getElem?_eq_some_iff.1 hta2).1
        obtain rfl : t' = t := by have := ht'.out; rw [hta2] at this; injection this with this; exact this.symm
        obtain ⟨ak, kd', jk, m6, hk'⟩ := hY.out.at_ (P := Try.prog) Try.underlying74 one_u8 (k := i) (List.getElem?_eq_some_iff.1 E.hk).1
        obtain rfl : kd' = kd := by have := hk'.out; rw [E.hk] at this; injection this with this; exact this.symm
        obtain ⟨yA, yn, yc, rfl⟩ : ∃ A n c, yv = .slice A n c := by obtain ⟨A, c, e, _⟩ := hY.out; exact ⟨_, _, _, e⟩
        clear E E2 hGa hGb hvo hv hM3 hta hta2 ht' hY hk' hr1 hW
        go_enter Try.func7, Try.ntmps7
        go_upto_region 1 with (fail)
        refine wp_gen (fun Wv => Bx Wv (w.heap.size) (26) (#[.slice tA tn tc, .slice oA on oc, .slice sA sn sc]) ∧ Bx Wv (w.heap.size + 1) (28) (#[.int .i64 k, .int .i64 b0]) ∧ Bx Wv (w.heap.size + 1 + 1) (28) (#[.int .i64 a1, .int .i64 b1]) ∧ Below w.heap.size w Wv) ⟨((((Bx.at_ (by simp)).alloc _).alloc _)), (((Bx.at_ (by simp)).alloc _)), ((Bx.at_ (by simp))), ((((Below.refl _ w).alloc (by simp <;> omega) _).alloc (by simp <;> omega) _).alloc (by simp <;> omega) _)⟩ ?_
        rintro wa1 ⟨g1, g2, g3, b⟩
        replace m0 := cell_later b m0; replace m2 := cell_later b m2; replace m3 := cell_later b m3; replace m4 := cell_later b m4; replace m5 := cell_later b m5; replace m6 := cell_later b m6; replace B := B.trans (b.mono B.size); clear b
        have c_g1 := g1.cell; have f_g1 := g1.free; have a_g1 := fun o => (g1.alloc o).cell; have d_g1 := fun o o2 => ((g1.alloc o).alloc o2).cell; have e_g1 := fun o => (g1.alloc o).free
        have c_g2 := g2.cell; have f_g2 := g2.free; have a_g2 := fun o => (g2.alloc o).cell; have d_g2 := fun o o2 => ((g2.alloc o).alloc o2).cell; have e_g2 := fun o => (g2.alloc o).free
        have c_g3 := g3.cell; have f_g3 := g3.free; have a_g3 := fun o => (g3.alloc o).cell; have d_g3 := fun o o2 => ((g3.alloc o).alloc o2).cell; have e_g3 := fun o => (g3.alloc o).free
        go_wp2_with fail
        refine (alive20_any _).mono ?_
        rintro e wa2 ⟨rfl, b⟩
        replace m0 := cell_later b m0; replace m2 := cell_later b m2; replace m3 := cell_later b m3; replace m4 := cell_later b m4; replace m5 := cell_later b m5; replace m6 := cell_later b m6; try clear c_g1 f_g1 a_g1 d_g1 e_g1
        replace g1 := g1.below b; have c_g1 := g1.cell; have f_g1 := g1.free; have a_g1 := fun o => (g1.alloc o).cell; have d_g1 := fun o o2 => ((g1.alloc o).alloc o2).cell; have e_g1 := fun o => (g1.alloc o).free; try clear c_g2 f_g2 a_g2 d_g2 e_g2
        replace g2 := g2.below b; have c_g2 := g2.cell; have f_g2 := g2.free; have a_g2 := fun o => (g2.alloc o).cell; have d_g2 := fun o o2 => ((g2.alloc o).alloc o2).cell; have e_g2 := fun o => (g2.alloc o).free; try clear c_g3 f_g3 a_g3 d_g3 e_g3
        replace g3 := g3.below b; have c_g3 := g3.cell; have f_g3 := g3.free; have a_g3 := fun o => (g3.alloc o).cell; have d_g3 := fun o o2 => ((g3.alloc o).alloc o2).cell; have e_g3 := fun o => (g3.alloc o).free; replace B := B.trans (b.mono B.size); clear b
        go_wp2_with fail
        refine (FT.out _ (H.out.below B)).mono ?_
        rintro e wa3 ⟨rfl, b⟩
        replace m0 := cell_later b m0; replace m2 := cell_later b m2; replace m3 := cell_later b m3; replace m4 := cell_later b m4; replace m5 := cell_later b m5; replace m6 := cell_later b m6; try clear c_g1 f_g1 a_g1 d_g1 e_g1
        replace g1 := g1.below b; have c_g1 := g1.cell; have f_g1 := g1.free; have a_g1 := fun o => (g1.alloc o).cell; have d_g1 := fun o o2 => ((g1.alloc o).alloc o2).cell; have e_g1 := fun o => (g1.alloc o).free; try clear c_g2 f_g2 a_g2 d_g2 e_g2
        replace g2 := g2.below b; have c_g2 := g2.cell; have f_g2 := g2.free; have a_g2 := fun o => (g2.alloc o).cell; have d_g2 := fun o o2 => ((g2.alloc o).alloc o2).cell; have e_g2 := fun o => (g2.alloc o).free; try clear c_g3 f_g3 a_g3 d_g3 e_g3
        replace g3 := g3.below b; have c_g3 := g3.cell; have f_g3 := g3.free; have a_g3 := fun o => (g3.alloc o).cell; have d_g3 := fun o o2 => ((g3.alloc o).alloc o2).cell; have e_g3 := fun o => (g3.alloc o).free; replace B := B.trans (b.mono B.size); clear b
        go_wp2_with fail
        refine (RT.out _ _ (H.out.below B).s).mono ?_
        rintro e wa4 ⟨rfl, b⟩
        replace m0 := cell_later b m0; replace m2 := cell_later b m2; replace m3 := cell_later b m3; replace m4 := cell_later b m4; replace m5 := cell_later b m5; replace m6 := cell_later b m6; try clear c_g1 f_g1 a_g1 d_g1 e_g1
        replace g1 := g1.below b; have c_g1 := g1.cell; have f_g1 := g1.free; have a_g1 := fun o => (g1.alloc o).cell; have d_g1 := fun o o2 => ((g1.alloc o).alloc o2).cell; have e_g1 := fun o => (g1.alloc o).free; try clear c_g2 f_g2 a_g2 d_g2 e_g2
        replace g2 := g2.below b; have c_g2 := g2.cell; have f_g2 := g2.free; have a_g2 := fun o => (g2.alloc o).cell; have d_g2 := fun o o2 => ((g2.alloc o).alloc o2).cell; have e_g2 := fun o => (g2.alloc o).free; try clear c_g3 f_g3 a_g3 d_g3 e_g3
        replace g3 := g3.below b; have c_g3 := g3.cell; have f_g3 := g3.free; have a_g3 := fun o => (g3.alloc o).cell; have d_g3 := fun o o2 => ((g3.alloc o).alloc o2).cell; have e_g3 := fun o => (g3.alloc o).free; replace B := B.trans (b.mono B.size); clear b
        go_wp2_with fail
        refine (GA.out _ _ _ _ (H.out.below B)).mono ?_
        rintro e wa5 ⟨rfl, b⟩
        replace m0 := cell_later b m0; replace m2 := cell_later b m2; replace m3 := cell_later b m3; replace m4 := cell_later b m4; replace m5 := cell_later b m5; replace m6 := cell_later b m6; try clear c_g1 f_g1 a_g1 d_g1 e_g1
        replace g1 := g1.below b; have c_g1 := g1.cell; have f_g1 := g1.free; have a_g1 := fun o => (g1.alloc o).cell; have d_g1 := fun o o2 => ((g1.alloc o).alloc o2).cell; have e_g1 := fun o => (g1.alloc o).free; try clear c_g2 f_g2 a_g2 d_g2 e_g2
        replace g2 := g2.below b; have c_g2 := g2.cell; have f_g2 := g2.free; have a_g2 := fun o => (g2.alloc o).cell; have d_g2 := fun o o2 => ((g2.alloc o).alloc o2).cell; have e_g2 := fun o => (g2.alloc o).free; try clear c_g3 f_g3 a_g3 d_g3 e_g3
        replace g3 := g3.below b; have c_g3 := g3.cell; have f_g3 := g3.free; have a_g3 := fun o => (g3.alloc o).cell; have d_g3 := fun o o2 => ((g3.alloc o).alloc o2).cell; have e_g3 := fun o => (g3.alloc o).free; replace B := B.trans (b.mono B.size); clear b
        go_wp2_with fail
        refine (SA.out _ _ _ _ (H.out.below B)).mono ?_
        rintro e wa6 ⟨u1, u2, u3, rfl, k1, b⟩
        replace m0 := cell_later b m0; replace m2 := cell_later b m2; replace m3 := cell_later b m3; replace m4 := cell_later b m4; replace m5 := cell_later b m5; replace m6 := cell_later b m6; try clear c_g1 f_g1 a_g1 d_g1 e_g1
        replace g1 := g1.below b; have c_g1 := g1.cell; have f_g1 := g1.free; have a_g1 := fun o => (g1.alloc o).cell; have d_g1 := fun o o2 => ((g1.alloc o).alloc o2).cell; have e_g1 := fun o => (g1.alloc o).free; try clear c_g2 f_g2 a_g2 d_g2 e_g2
        replace g2 := g2.below b; have c_g2 := g2.cell; have f_g2 := g2.free; have a_g2 := fun o => (g2.alloc o).cell; have d_g2 := fun o o2 => ((g2.alloc o).alloc o2).cell; have e_g2 := fun o => (g2.alloc o).free; try clear c_g3 f_g3 a_g3 d_g3 e_g3
        replace g3 := g3.below b; have c_g3 := g3.cell; have f_g3 := g3.free; have a_g3 := fun o => (g3.alloc o).cell; have d_g3 := fun o o2 => ((g3.alloc o).alloc o2).cell; have e_g3 := fun o => (g3.alloc o).free; replace B := B.trans (b.mono B.size); clear b
        obtain ⟨⟨u1A, u1n, u1c, rfl⟩, ⟨u2A, u2n, u2c, rfl⟩, ⟨u3A, u3n, u3c, rfl⟩⟩ := k1.forms
        go_upto_region 10 with (fail)
        refine wp_gen (fun Wv => Bx Wv (wa6.heap.size) (26) (#[.slice u1A u1n u1c, .slice u2A u2n u2c, .slice u3A u3n u3c]) ∧ Below wa6.heap.size wa6 Wv) ⟨((Bx.at_ (by simp))), ((Below.refl _ wa6).alloc (by simp <;> omega) _)⟩ ?_
        rintro wa7 ⟨g4, b⟩
        replace m0 := cell_later b m0; replace m2 := cell_later b m2; replace m3 := cell_later b m3; replace m4 := cell_later b m4; replace m5 := cell_later b m5; replace m6 := cell_later b m6; try clear c_g1 f_g1 a_g1 d_g1 e_g1
        replace g1 := g1.below b; have c_g1 := g1.cell; have f_g1 := g1.free; have a_g1 := fun o => (g1.alloc o).cell; have d_g1 := fun o o2 => ((g1.alloc o).alloc o2).cell; have e_g1 := fun o => (g1.alloc o).free; try clear c_g2 f_g2 a_g2 d_g2 e_g2
        replace g2 := g2.below b; have c_g2 := g2.cell; have f_g2 := g2.free; have a_g2 := fun o => (g2.alloc o).cell; have d_g2 := fun o o2 => ((g2.alloc o).alloc o2).cell; have e_g2 := fun o => (g2.alloc o).free; try clear c_g3 f_g3 a_g3 d_g3 e_g3
        replace g3 := g3.below b; have c_g3 := g3.cell; have f_g3 := g3.free; have a_g3 := fun o => (g3.alloc o).cell; have d_g3 := fun o o2 => ((g3.alloc o).alloc o2).cell; have e_g3 := fun o => (g3.alloc o).free; replace k1 := k1.below b; replace B := B.trans (b.mono B.size); clear b
        have c_g4 := g4.cell; have f_g4 := g4.free; have a_g4 := fun o => (g4.alloc o).cell; have d_g4 := fun o o2 => ((g4.alloc o).alloc o2).cell; have e_g4 := fun o => (g4.alloc o).free
        go_wp2_with fail
        refine (GB.out _ _ _ _ k1).mono ?_
        rintro e wa8 ⟨rfl, b⟩
        replace m0 := cell_later b m0; replace m2 := cell_later b m2; replace m3 := cell_later b m3; replace m4 := cell_later b m4; replace m5 := cell_later b m5; replace m6 := cell_later b m6; try clear c_g1 f_g1 a_g1 d_g1 e_g1
        replace g1 := g1.below b; have c_g1 := g1.cell; have f_g1 := g1.free; have a_g1 := fun o => (g1.alloc o).cell; have d_g1 := fun o o2 => ((g1.alloc o).alloc o2).cell; have e_g1 := fun o => (g1.alloc o).free; try clear c_g2 f_g2 a_g2 d_g2 e_g2
        replace g2 := g2.below b; have c_g2 := g2.cell; have f_g2 := g2.free; have a_g2 := fun o => (g2.alloc o).cell; have d_g2 := fun o o2 => ((g2.alloc o).alloc o2).cell; have e_g2 := fun o => (g2.alloc o).free; try clear c_g3 f_g3 a_g3 d_g3 e_g3
        replace g3 := g3.below b; have c_g3 := g3.cell; have f_g3 := g3.free; have a_g3 := fun o => (g3.alloc o).cell; have d_g3 := fun o o2 => ((g3.alloc o).alloc o2).cell; have e_g3 := fun o => (g3.alloc o).free; replace k1 := k1.below b; try clear c_g4 f_g4 a_g4 d_g4 e_g4
        replace g4 := g4.below b; have c_g4 := g4.cell; have f_g4 := g4.free; have a_g4 := fun o => (g4.alloc o).cell; have d_g4 := fun o o2 => ((g4.alloc o).alloc o2).cell; have e_g4 := fun o => (g4.alloc o).free; replace B := B.trans (b.mono B.size); clear b
        go_wp2_with fail
        refine (SB.out _ _ _ _ k1).mono ?_
        rintro e wa9 ⟨v1, v2, v3, rfl, k2, b⟩
        replace m0 := cell_later b m0; replace m2 := cell_later b m2; replace m3 := cell_later b m3; replace m4 := cell_later b m4; replace m5 := cell_later b m5; replace m6 := cell_later b m6; try clear c_g1 f_g1 a_g1 d_g1 e_g1
        replace g1 := g1.below b; have c_g1 := g1.cell; have f_g1 := g1.free; have a_g1 := fun o => (g1.alloc o).cell; have d_g1 := fun o o2 => ((g1.alloc o).alloc o2).cell; have e_g1 := fun o => (g1.alloc o).free; try clear c_g2 f_g2 a_g2 d_g2 e_g2
        replace g2 := g2.below b; have c_g2 := g2.cell; have f_g2 := g2.free; have a_g2 := fun o => (g2.alloc o).cell; have d_g2 := fun o o2 => ((g2.alloc o).alloc o2).cell; have e_g2 := fun o => (g2.alloc o).free; try clear c_g3 f_g3 a_g3 d_g3 e_g3
        replace g3 := g3.below b; have c_g3 := g3.cell; have f_g3 := g3.free; have a_g3 := fun o => (g3.alloc o).cell; have d_g3 := fun o o2 => ((g3.alloc o).alloc o2).cell; have e_g3 := fun o => (g3.alloc o).free; replace k1 := k1.below b; try clear c_g4 f_g4 a_g4 d_g4 e_g4
        replace g4 := g4.below b; have c_g4 := g4.cell; have f_g4 := g4.free; have a_g4 := fun o => (g4.alloc o).cell; have d_g4 := fun o o2 => ((g4.alloc o).alloc o2).cell; have e_g4 := fun o => (g4.alloc o).free; replace B := B.trans (b.mono B.size); clear b
        obtain ⟨⟨v1A, v1n, v1c, rfl⟩, ⟨v2A, v2n, v2c, rfl⟩, ⟨v3A, v3n, v3c, rfl⟩⟩ := k2.forms
        go_upto_region 13 with (fail)
        refine wp_gen (fun Wv => Bx Wv (wa9.heap.size) (26) (#[.slice v1A v1n v1c, .slice v2A v2n v2c, .slice v3A v3n v3c]) ∧ Below wa9.heap.size wa9 Wv) ⟨((Bx.at_ (by simp))), ((Below.refl _ wa9).alloc (by simp <;> omega) _)⟩ ?_
        rintro wa10 ⟨g5, b⟩
        replace m0 := cell_later b m0; replace m2 := cell_later b m2; replace m3 := cell_later b m3; replace m4 := cell_later b m4; replace m5 := cell_later b m5; replace m6 := cell_later b m6; try clear c_g1 f_g1 a_g1 d_g1 e_g1
        replace g1 := g1.below b; have c_g1 := g1.cell; have f_g1 := g1.free; have a_g1 := fun o => (g1.alloc o).cell; have d_g1 := fun o o2 => ((g1.alloc o).alloc o2).cell; have e_g1 := fun o => (g1.alloc o).free; try clear c_g2 f_g2 a_g2 d_g2 e_g2
        replace g2 := g2.below b; have c_g2 := g2.cell; have f_g2 := g2.free; have a_g2 := fun o => (g2.alloc o).cell; have d_g2 := fun o o2 => ((g2.alloc o).alloc o2).cell; have e_g2 := fun o => (g2.alloc o).free; try clear c_g3 f_g3 a_g3 d_g3 e_g3
        replace g3 := g3.below b; have c_g3 := g3.cell; have f_g3 := g3.free; have a_g3 := fun o => (g3.alloc o).cell; have d_g3 := fun o o2 => ((g3.alloc o).alloc o2).cell; have e_g3 := fun o => (g3.alloc o).free; replace k1 := k1.below b; try clear c_g4 f_g4 a_g4 d_g4 e_g4
        replace g4 := g4.below b; have c_g4 := g4.cell; have f_g4 := g4.free; have a_g4 := fun o => (g4.alloc o).cell; have d_g4 := fun o o2 => ((g4.alloc o).alloc o2).cell; have e_g4 := fun o => (g4.alloc o).free; replace k2 := k2.below b; replace B := B.trans (b.mono B.size); clear b
        have c_g5 := g5.cell; have f_g5 := g5.free; have a_g5 := fun o => (g5.alloc o).cell; have d_g5 := fun o o2 => ((g5.alloc o).alloc o2).cell; have e_g5 := fun o => (g5.alloc o).free
        have HH := Lib.hid (fun z : Fut _ => H.out.below (B.trans (z.h.mono B.size)))
        have K1 := Lib.hid (fun z : Fut _ => k1.below z.h)
        have K2 := Lib.hid (fun z : Fut _ => k2.below z.h)
        have hcases : v = x ∨ (v.toNat = 9221120237041090561 ∧ kd'.toNat = 2) := hor.imp id fun h => ⟨by rw [h.1]; rfl, h.2⟩
        clear hor
        by_cases hvx : v = x
        · subst hvx
          have b1 : ((v.toNat : Int) != (v.toNat : Int)) = false := bne_self_eq_false _
          refine wp_region_calm (by kernel_rfl) (by kernel_rfl) ?_
          try clear c_g1 f_g1 a_g1 d_g1 e_g1
          have c_g1 := fun x : Fut _ => (g1.below x.h).cell
          try clear c_g2 f_g2 a_g2 d_g2 e_g2
          have c_g2 := fun x : Fut _ => (g2.below x.h).cell
          try clear c_g3 f_g3 a_g3 d_g3 e_g3
          have c_g3 := fun x : Fut _ => (g3.below x.h).cell
          try clear c_g4 f_g4 a_g4 d_g4 e_g4
          have c_g4 := fun x : Fut _ => (g4.below x.h).cell
          try clear c_g5 f_g5 a_g5 d_g5 e_g5
          have c_g5 := fun x : Fut _ => (g5.below x.h).cell
          have c_m0 := fun x : Fut _ => cell_later x.h m0
          have c_m2 := fun x : Fut _ => cell_later x.h m2
          have c_m3 := fun x : Fut _ => cell_later x.h m3
          have c_m4 := fun x : Fut _ => cell_later x.h m4
          have c_m5 := fun x : Fut _ => cell_later x.h m5
          have c_m6 := fun x : Fut _ => cell_later x.h m6
          repeat (go_big_quiet_step (first | exact Fut.call (KA.out _ _ _ _ (K1.out _)) | exact Fut.call (SM.out _ _ _ _ _ _ _ (K2.out _) (HH.out _)) | exact Fut.call (BT.out _ _ _ _ _ _ _ (HH.out _) (K1.out _))))
          refine wpQuiet_nil ?_
          intro _ hw'
          obtain ⟨xq, hw''⟩ := hw'
          subst hw''
          clear c_m0; replace m0 := cell_later xq.h m0
          clear c_m2; replace m2 := cell_later xq.h m2
          clear c_m3; replace m3 := cell_later xq.h m3
          clear c_m4; replace m4 := cell_later xq.h m4
          clear c_m5; replace m5 := cell_later xq.h m5
          clear c_m6; replace m6 := cell_later xq.h m6
          clear c_g1; replace g1 := g1.below xq.h; have c_g1 := g1.cell; have f_g1 := g1.free; have a_g1 := fun o => (g1.alloc o).cell; have d_g1 := fun o o2 => ((g1.alloc o).alloc o2).cell; have e_g1 := fun o => (g1.alloc o).free
          clear c_g2; replace g2 := g2.below xq.h; have c_g2 := g2.cell; have f_g2 := g2.free; have a_g2 := fun o => (g2.alloc o).cell; have d_g2 := fun o o2 => ((g2.alloc o).alloc o2).cell; have e_g2 := fun o => (g2.alloc o).free
          clear c_g3; replace g3 := g3.below xq.h; have c_g3 := g3.cell; have f_g3 := g3.free; have a_g3 := fun o => (g3.alloc o).cell; have d_g3 := fun o o2 => ((g3.alloc o).alloc o2).cell; have e_g3 := fun o => (g3.alloc o).free
          replace k1 := k1.below xq.h
          clear c_g4; replace g4 := g4.below xq.h; have c_g4 := g4.cell; have f_g4 := g4.free; have a_g4 := fun o => (g4.alloc o).cell; have d_g4 := fun o o2 => ((g4.alloc o).alloc o2).cell; have e_g4 := fun o => (g4.alloc o).free
          replace k2 := k2.below xq.h
          clear c_g5; replace g5 := g5.below xq.h; have c_g5 := g5.cell; have f_g5 := g5.free; have a_g5 := fun o => (g5.alloc o).cell; have d_g5 := fun o o2 => ((g5.alloc o).alloc o2).cell; have e_g5 := fun o => (g5.alloc o).free
          replace B := B.trans (xq.h.mono B.size)
          go_wp2_with fail
          refine (SR.out _ _ _ _ _ (H.out.below B) ⟨_, rfl, g3⟩).mono ?_
          rintro e wa11 ⟨y1, y2, y3, rfl, k3, b⟩
          replace m0 := cell_later b m0; replace m2 := cell_later b m2; replace m3 := cell_later b m3; replace m4 := cell_later b m4; replace m5 := cell_later b m5; replace m6 := cell_later b m6; try clear c_g1 f_g1 a_g1 d_g1 e_g1
          replace g1 := g1.below b; have c_g1 := g1.cell; have f_g1 := g1.free; have a_g1 := fun o => (g1.alloc o).cell; have d_g1 := fun o o2 => ((g1.alloc o).alloc o2).cell; have e_g1 := fun o => (g1.alloc o).free; try clear c_g2 f_g2 a_g2 d_g2 e_g2
          replace g2 := g2.below b; have c_g2 := g2.cell; have f_g2 := g2.free; have a_g2 := fun o => (g2.alloc o).cell; have d_g2 := fun o o2 => ((g2.alloc o).alloc o2).cell; have e_g2 := fun o => (g2.alloc o).free; try clear c_g3 f_g3 a_g3 d_g3 e_g3
          replace g3 := g3.below b; have c_g3 := g3.cell; have f_g3 := g3.free; have a_g3 := fun o => (g3.alloc o).cell; have d_g3 := fun o o2 => ((g3.alloc o).alloc o2).cell; have e_g3 := fun o => (g3.alloc o).free; replace k1 := k1.below b; try clear c_g4 f_g4 a_g4 d_g4 e_g4
          replace g4 := g4.below b; have c_g4 := g4.cell; have f_g4 := g4.free; have a_g4 := fun o => (g4.alloc o).cell; have d_g4 := fun o o2 => ((g4.alloc o).alloc o2).cell; have e_g4 := fun o => (g4.alloc o).free; replace k2 := k2.below b; try clear c_g5 f_g5 a_g5 d_g5 e_g5
          replace g5 := g5.below b; have c_g5 := g5.cell; have f_g5 := g5.free; have a_g5 := fun o => (g5.alloc o).cell; have d_g5 := fun o o2 => ((g5.alloc o).alloc o2).cell; have e_g5 := fun o => (g5.alloc o).free; replace B := B.trans (b.mono B.size); clear b
          obtain ⟨⟨y1A, y1n, y1c, rfl⟩, ⟨y2A, y2n, y2c, rfl⟩, ⟨y3A, y3n, y3c, rfl⟩⟩ := k3.forms
          go_upto_region 16 with (fail)
          refine wp_gen (fun Wv => Bx Wv (wa11.heap.size) (26) (#[.slice y1A y1n y1c, .slice y2A y2n y2c, .slice y3A y3n y3c]) ∧ Below wa11.heap.size wa11 Wv) ⟨((Bx.at_ (by simp))), ((Below.refl _ wa11).alloc (by simp <;> omega) _)⟩ ?_
          rintro wa12 ⟨g6, b⟩
          replace m0 := cell_later b m0; replace m2 := cell_later b m2; replace m3 := cell_later b m3; replace m4 := cell_later b m4; replace m5 := cell_later b m5; replace m6 := cell_later b m6; try clear c_g1 f_g1 a_g1 d_g1 e_g1
          replace g1 := g1.below b; have c_g1 := g1.cell; have f_g1 := g1.free; have a_g1 := fun o => (g1.alloc o).cell; have d_g1 := fun o o2 => ((g1.alloc o).alloc o2).cell; have e_g1 := fun o => (g1.alloc o).free; try clear c_g2 f_g2 a_g2 d_g2 e_g2
          replace g2 := g2.below b; have c_g2 := g2.cell; have f_g2 := g2.free; have a_g2 := fun o => (g2.alloc o).cell; have d_g2 := fun o o2 => ((g2.alloc o).alloc o2).cell; have e_g2 := fun o => (g2.alloc o).free; try clear c_g3 f_g3 a_g3 d_g3 e_g3
          replace g3 := g3.below b; have c_g3 := g3.cell; have f_g3 := g3.free; have a_g3 := fun o => (g3.alloc o).cell; have d_g3 := fun o o2 => ((g3.alloc o).alloc o2).cell; have e_g3 := fun o => (g3.alloc o).free; replace k1 := k1.below b; try clear c_g4 f_g4 a_g4 d_g4 e_g4
          replace g4 := g4.below b; have c_g4 := g4.cell; have f_g4 := g4.free; have a_g4 := fun o => (g4.alloc o).cell; have d_g4 := fun o o2 => ((g4.alloc o).alloc o2).cell; have e_g4 := fun o => (g4.alloc o).free; replace k2 := k2.below b; try clear c_g5 f_g5 a_g5 d_g5 e_g5
          replace g5 := g5.below b; have c_g5 := g5.cell; have f_g5 := g5.free; have a_g5 := fun o => (g5.alloc o).cell; have d_g5 := fun o o2 => ((g5.alloc o).alloc o2).cell; have e_g5 := fun o => (g5.alloc o).free; replace k3 := k3.below b; replace B := B.trans (b.mono B.size); clear b
          have c_g6 := g6.cell; have f_g6 := g6.free; have a_g6 := fun o => (g6.alloc o).cell; have d_g6 := fun o o2 => ((g6.alloc o).alloc o2).cell; have e_g6 := fun o => (g6.alloc o).free
          go_wp2_with fail
          refine (RU.out _ _ (H.out.below B).s).mono ?_
          rintro e wa13 ⟨rfl, b⟩
          replace m0 := cell_later b m0; replace m2 := cell_later b m2; replace m3 := cell_later b m3; replace m4 := cell_later b m4; replace m5 := cell_later b m5; replace m6 := cell_later b m6; try clear c_g1 f_g1 a_g1 d_g1 e_g1
          replace g1 := g1.below b; have c_g1 := g1.cell; have f_g1 := g1.free; have a_g1 := fun o => (g1.alloc o).cell; have d_g1 := fun o o2 => ((g1.alloc o).alloc o2).cell; have e_g1 := fun o => (g1.alloc o).free; try clear c_g2 f_g2 a_g2 d_g2 e_g2
          replace g2 := g2.below b; have c_g2 := g2.cell; have f_g2 := g2.free; have a_g2 := fun o => (g2.alloc o).cell; have d_g2 := fun o o2 => ((g2.alloc o).alloc o2).cell; have e_g2 := fun o => (g2.alloc o).free; try clear c_g3 f_g3 a_g3 d_g3 e_g3
          replace g3 := g3.below b; have c_g3 := g3.cell; have f_g3 := g3.free; have a_g3 := fun o => (g3.alloc o).cell; have d_g3 := fun o o2 => ((g3.alloc o).alloc o2).cell; have e_g3 := fun o => (g3.alloc o).free; replace k1 := k1.below b; try clear c_g4 f_g4 a_g4 d_g4 e_g4
          replace g4 := g4.below b; have c_g4 := g4.cell; have f_g4 := g4.free; have a_g4 := fun o => (g4.alloc o).cell; have d_g4 := fun o o2 => ((g4.alloc o).alloc o2).cell; have e_g4 := fun o => (g4.alloc o).free; replace k2 := k2.below b; try clear c_g5 f_g5 a_g5 d_g5 e_g5
          replace g5 := g5.below b; have c_g5 := g5.cell; have f_g5 := g5.free; have a_g5 := fun o => (g5.alloc o).cell; have d_g5 := fun o o2 => ((g5.alloc o).alloc o2).cell; have e_g5 := fun o => (g5.alloc o).free; replace k3 := k3.below b; try clear c_g6 f_g6 a_g6 d_g6 e_g6
          replace g6 := g6.below b; have c_g6 := g6.cell; have f_g6 := g6.free; have a_g6 := fun o => (g6.alloc o).cell; have d_g6 := fun o o2 => ((g6.alloc o).alloc o2).cell; have e_g6 := fun o => (g6.alloc o).free; replace B := B.trans (b.mono B.size); clear b
          by_cases h1 : r1 = 0
          · have n3 : (r1 != 0) = false := by rw [bne_eq_false_iff_eq]; exact h1
            go_wp2
            go_ret
            exact ⟨rfl, B⟩
          · have n3 : (r1 != 0) = true := by rw [bne_iff_ne]; exact h1
            go_wp2
            go_ret
            exact ⟨rfl, B⟩
        · obtain ⟨hq1, hq2⟩ := hcases.resolve_left hvx
          rw [hq2] at m6
          have b1 : ((v.toNat : Int) != (x.toNat : Int)) = true := by rw [bne_iff_ne]; intro e; exact hvx (UInt64.toNat.inj (by omega))
          have b3 : ((v.toNat : Int) == (x.toNat : Int)) = false := by rw [beq_eq_false_iff_ne]; intro e; exact hvx (UInt64.toNat.inj (by omega))
          have b4 : decide ((v.toNat : Int) = (x.toNat : Int)) = false := by rw [decide_eq_false_iff_not]; intro e; exact hvx (UInt64.toNat.inj (by omega))
          have b5 : decide (v.toNat = x.toNat) = false := by rw [decide_eq_false_iff_not]; intro e; exact hvx (UInt64.toNat.inj (by omega))
          have b6 : (v.toNat == x.toNat) = false := by rw [beq_eq_false_iff_ne]; intro e; exact hvx (UInt64.toNat.inj (by omega))
          have b7 : (v.toNat != x.toNat) = true := by rw [bne_iff_ne]; intro e; exact hvx (UInt64.toNat.inj (by omega))
          have b2 : ((v.toNat : Int) != 9221120237041090561) = false := by rw [bne_eq_false_iff_eq]; omega
          clear hcases hq1 hq2 hvx b4 b5 b6 b7
          refine wp_region_calm (by kernel_rfl) (by kernel_rfl) ?_
          try clear c_g1 f_g1 a_g1 d_g1 e_g1
          have c_g1 := fun x : Fut _ => (g1.below x.h).cell
          try clear c_g2 f_g2 a_g2 d_g2 e_g2
          have c_g2 := fun x : Fut _ => (g2.below x.h).cell
          try clear c_g3 f_g3 a_g3 d_g3 e_g3
          have c_g3 := fun x : Fut _ => (g3.below x.h).cell
          try clear c_g4 f_g4 a_g4 d_g4 e_g4
          have c_g4 := fun x : Fut _ => (g4.below x.h).cell
          try clear c_g5 f_g5 a_g5 d_g5 e_g5
          have c_g5 := fun x : Fut _ => (g5.below x.h).cell
          have c_m0 := fun x : Fut _ => cell_later x.h m0
          have c_m2 := fun x : Fut _ => cell_later x.h m2
          have c_m3 := fun x : Fut _ => cell_later x.h m3
          have c_m4 := fun x : Fut _ => cell_later x.h m4
          have c_m5 := fun x : Fut _ => cell_later x.h m5
          have c_m6 := fun x : Fut _ => cell_later x.h m6
          repeat (go_big_quiet_step (first | exact Fut.call (KA.out _ _ _ _ (K1.out _)) | exact Fut.call (SM.out _ _ _ _ _ _ _ (K2.out _) (HH.out _)) | exact Fut.call (BT.out _ _ _ _ _ _ _ (HH.out _) (K1.out _))))
          refine wpQuiet_nil ?_
          intro _ hw'
          obtain ⟨xq, hw''⟩ := hw'
          subst hw''
          clear c_m0; replace m0 := cell_later xq.h m0
          clear c_m2; replace m2 := cell_later xq.h m2
          clear c_m3; replace m3 := cell_later xq.h m3
          clear c_m4; replace m4 := cell_later xq.h m4
          clear c_m5; replace m5 := cell_later xq.h m5
          clear c_m6; replace m6 := cell_later xq.h m6
          clear c_g1; replace g1 := g1.below xq.h; have c_g1 := g1.cell; have f_g1 := g1.free; have a_g1 := fun o => (g1.alloc o).cell; have d_g1 := fun o o2 => ((g1.alloc o).alloc o2).cell; have e_g1 := fun o => (g1.alloc o).free
          clear c_g2; replace g2 := g2.below xq.h; have c_g2 := g2.cell; have f_g2 := g2.free; have a_g2 := fun o => (g2.alloc o).cell; have d_g2 := fun o o2 => ((g2.alloc o).alloc o2).cell; have e_g2 := fun o => (g2.alloc o).free
          clear c_g3; replace g3 := g3.below xq.h; have c_g3 := g3.cell; have f_g3 := g3.free; have a_g3 := fun o => (g3.alloc o).cell; have d_g3 := fun o o2 => ((g3.alloc o).alloc o2).cell; have e_g3 := fun o => (g3.alloc o).free
          replace k1 := k1.below xq.h
          clear c_g4; replace g4 := g4.below xq.h; have c_g4 := g4.cell; have f_g4 := g4.free; have a_g4 := fun o => (g4.alloc o).cell; have d_g4 := fun o o2 => ((g4.alloc o).alloc o2).cell; have e_g4 := fun o => (g4.alloc o).free
          replace k2 := k2.below xq.h
          clear c_g5; replace g5 := g5.below xq.h; have c_g5 := g5.cell; have f_g5 := g5.free; have a_g5 := fun o => (g5.alloc o).cell; have d_g5 := fun o o2 => ((g5.alloc o).alloc o2).cell; have e_g5 := fun o => (g5.alloc o).free
          replace B := B.trans (xq.h.mono B.size)
          go_wp2_with fail
          refine (SR.out _ _ _ _ _ (H.out.below B) ⟨_, rfl, g3⟩).mono ?_
          rintro e wa14 ⟨y1, y2, y3, rfl, k3, b⟩
          replace m0 := cell_later b m0; replace m2 := cell_later b m2; replace m3 := cell_later b m3; replace m4 := cell_later b m4; replace m5 := cell_later b m5; replace m6 := cell_later b m6; try clear c_g1 f_g1 a_g1 d_g1 e_g1
          replace g1 := g1.below b; have c_g1 := g1.cell; have f_g1 := g1.free; have a_g1 := fun o => (g1.alloc o).cell; have d_g1 := fun o o2 => ((g1.alloc o).alloc o2).cell; have e_g1 := fun o => (g1.alloc o).free; try clear c_g2 f_g2 a_g2 d_g2 e_g2
          replace g2 := g2.below b; have c_g2 := g2.cell; have f_g2 := g2.free; have a_g2 := fun o => (g2.alloc o).cell; have d_g2 := fun o o2 => ((g2.alloc o).alloc o2).cell; have e_g2 := fun o => (g2.alloc o).free; try clear c_g3 f_g3 a_g3 d_g3 e_g3
          replace g3 := g3.below b; have c_g3 := g3.cell; have f_g3 := g3.free; have a_g3 := fun o => (g3.alloc o).cell; have d_g3 := fun o o2 => ((g3.alloc o).alloc o2).cell; have e_g3 := fun o => (g3.alloc o).free; replace k1 := k1.below b; try clear c_g4 f_g4 a_g4 d_g4 e_g4
          replace g4 := g4.below b; have c_g4 := g4.cell; have f_g4 := g4.free; have a_g4 := fun o => (g4.alloc o).cell; have d_g4 := fun o o2 => ((g4.alloc o).alloc o2).cell; have e_g4 := fun o => (g4.alloc o).free; replace k2 := k2.below b; try clear c_g5 f_g5 a_g5 d_g5 e_g5
          replace g5 := g5.below b; have c_g5 := g5.cell; have f_g5 := g5.free; have a_g5 := fun o => (g5.alloc o).cell; have d_g5 := fun o o2 => ((g5.alloc o).alloc o2).cell; have e_g5 := fun o => (g5.alloc o).free; replace B := B.trans (b.mono B.size); clear b
          obtain ⟨⟨y1A, y1n, y1c, rfl⟩, ⟨y2A, y2n, y2c, rfl⟩, ⟨y3A, y3n, y3c, rfl⟩⟩ := k3.forms
          go_upto_region 16 with (fail)
          refine wp_gen (fun Wv => Bx Wv (wa14.heap.size) (26) (#[.slice y1A y1n y1c, .slice y2A y2n y2c, .slice y3A y3n y3c]) ∧ Below wa14.heap.size wa14 Wv) ⟨((Bx.at_ (by simp))), ((Below.refl _ wa14).alloc (by simp <;> omega) _)⟩ ?_
          rintro wa15 ⟨g6, b⟩
          replace m0 := cell_later b m0; replace m2 := cell_later b m2; replace m3 := cell_later b m3; replace m4 := cell_later b m4; replace m5 := cell_later b m5; replace m6 := cell_later b m6; try clear c_g1 f_g1 a_g1 d_g1 e_g1
          replace g1 := g1.below b; have c_g1 := g1.cell; have f_g1 := g1.free; have a_g1 := fun o => (g1.alloc o).cell; have d_g1 := fun o o2 => ((g1.alloc o).alloc o2).cell; have e_g1 := fun o => (g1.alloc o).free; try clear c_g2 f_g2 a_g2 d_g2 e_g2
          replace g2 := g2.below b; have c_g2 := g2.cell; have f_g2 := g2.free; have a_g2 := fun o => (g2.alloc o).cell; have d_g2 := fun o o2 => ((g2.alloc o).alloc o2).cell; have e_g2 := fun o => (g2.alloc o).free; try clear c_g3 f_g3 a_g3 d_g3 e_g3
          replace g3 := g3.below b; have c_g3 := g3.cell; have f_g3 := g3.free; have a_g3 := fun o => (g3.alloc o).cell; have d_g3 := fun o o2 => ((g3.alloc o).alloc o2).cell; have e_g3 := fun o => (g3.alloc o).free; replace k1 := k1.below b; try clear c_g4 f_g4 a_g4 d_g4 e_g4
          replace g4 := g4.below b; have c_g4 := g4.cell; have f_g4 := g4.free; have a_g4 := fun o => (g4.alloc o).cell; have d_g4 := fun o o2 => ((g4.alloc o).alloc o2).cell; have e_g4 := fun o => (g4.alloc o).free; replace k2 := k2.below b; try clear c_g5 f_g5 a_g5 d_g5 e_g5
          replace g5 := g5.below b; have c_g5 := g5.cell; have f_g5 := g5.free; have a_g5 := fun o => (g5.alloc o).cell; have d_g5 := fun o o2 => ((g5.alloc o).alloc o2).cell; have e_g5 := fun o => (g5.alloc o).free; replace k3 := k3.below b; replace B := B.trans (b.mono B.size); clear b
          have c_g6 := g6.cell; have f_g6 := g6.free; have a_g6 := fun o => (g6.alloc o).cell; have d_g6 := fun o o2 => ((g6.alloc o).alloc o2).cell; have e_g6 := fun o => (g6.alloc o).free
          go_wp2_with fail
          refine (RU.out _ _ (H.out.below B).s).mono ?_
          rintro e wa16 ⟨rfl, b⟩
          replace m0 := cell_later b m0; replace m2 := cell_later b m2; replace m3 := cell_later b m3; replace m4 := cell_later b m4; replace m5 := cell_later b m5; replace m6 := cell_later b m6; try clear c_g1 f_g1 a_g1 d_g1 e_g1
          replace g1 := g1.below b; have c_g1 := g1.cell; have f_g1 := g1.free; have a_g1 := fun o => (g1.alloc o).cell; have d_g1 := fun o o2 => ((g1.alloc o).alloc o2).cell; have e_g1 := fun o => (g1.alloc o).free; try clear c_g2 f_g2 a_g2 d_g2 e_g2
          replace g2 := g2.below b; have c_g2 := g2.cell; have f_g2 := g2.free; have a_g2 := fun o => (g2.alloc o).cell; have d_g2 := fun o o2 => ((g2.alloc o).alloc o2).cell; have e_g2 := fun o => (g2.alloc o).free; try clear c_g3 f_g3 a_g3 d_g3 e_g3
          replace g3 := g3.below b; have c_g3 := g3.cell; have f_g3 := g3.free; have a_g3 := fun o => (g3.alloc o).cell; have d_g3 := fun o o2 => ((g3.alloc o).alloc o2).cell; have e_g3 := fun o => (g3.alloc o).free; replace k1 := k1.below b; try clear c_g4 f_g4 a_g4 d_g4 e_g4
          replace g4 := g4.below b; have c_g4 := g4.cell; have f_g4 := g4.free; have a_g4 := fun o => (g4.alloc o).cell; have d_g4 := fun o o2 => ((g4.alloc o).alloc o2).cell; have e_g4 := fun o => (g4.alloc o).free; replace k2 := k2.below b; try clear c_g5 f_g5 a_g5 d_g5 e_g5
          replace g5 := g5.below b; have c_g5 := g5.cell; have f_g5 := g5.free; have a_g5 := fun o => (g5.alloc o).cell; have d_g5 := fun o o2 => ((g5.alloc o).alloc o2).cell; have e_g5 := fun o => (g5.alloc o).free; replace k3 := k3.below b; try clear c_g6 f_g6 a_g6 d_g6 e_g6
          replace g6 := g6.below b; have c_g6 := g6.cell; have f_g6 := g6.free; have a_g6 := fun o => (g6.alloc o).cell; have d_g6 := fun o o2 => ((g6.alloc o).alloc o2).cell; have e_g6 := fun o => (g6.alloc o).free; replace B := B.trans (b.mono B.size); clear b
          by_cases h1 : r1 = 0
          · have n3 : (r1 != 0) = false := by rw [bne_eq_false_iff_eq]; exact h1
            go_wp2
            go_ret
            exact ⟨rfl, B⟩
          · have n3 : (r1 != 0) = true := by rw [bne_iff_ne]; exact h1
            go_wp2
            go_ret
            exact ⟨rfl, B⟩
      case pos =>
        have hGa := E.get3 h3
        have GA := Lib.hid (fun t o s w h => Get20_any t o s m k b0 i 0 42 hGa.2.symm hGa.1.symm w h)
        have SA := Lib.hid (fun t o s w h => Set20_any t o s m k b0 i x .nil 42 (E.set3 h3).symm hGa.1.symm w h)
        by_cases h1 : r1 = 0
        case neg =>
          obtain ⟨M3, hM3⟩ : ∃ M, M = refM m k b0 i (some (a1, b1)) := ⟨_, rfl⟩
          have SR := Lib.hid (fun t o s pv w h h2 => SetRef20_any t o s m k b0 i pv (some (a1, b1)) M3 r1 hM3 (by rw [E.ref _ h3]; exact hr1) w h h2)
          have n3 : (r1 != 0) = true := by rw [bne_iff_ne]; exact h1
          clear E hGa hM3 hr1 hW h1
          go_enter Try.func7, Try.ntmps7
          go_upto_region 1 with (fail)
          refine wp_gen (fun Wv => Bx Wv (w.heap.size) (26) (#[.slice tA tn tc, .slice oA on oc, .slice sA sn sc]) ∧ Bx Wv (w.heap.size + 1) (28) (#[.int .i64 k, .int .i64 b0]) ∧ Bx Wv (w.heap.size + 1 + 1) (28) (#[.int .i64 a1, .int .i64 b1]) ∧ Below w.heap.size w Wv) ⟨((((Bx.at_ (by simp)).alloc _).alloc _)), (((Bx.at_ (by simp)).alloc _)), ((Bx.at_ (by simp))), ((((Below.refl _ w).alloc (by simp <;> omega) _).alloc (by simp <;> omega) _).alloc (by simp <;> omega) _)⟩ ?_
          rintro wa1 ⟨g1, g2, g3, b⟩
          replace m0 := cell_later b m0; replace m2 := cell_later b m2; replace m4 := cell_later b m4; replace B := B.trans (b.mono B.size); clear b
          have c_g1 := g1.cell; have f_g1 := g1.free; have a_g1 := fun o => (g1.alloc o).cell; have d_g1 := fun o o2 => ((g1.alloc o).alloc o2).cell; have e_g1 := fun o => (g1.alloc o).free
          have c_g2 := g2.cell; have f_g2 := g2.free; have a_g2 := fun o => (g2.alloc o).cell; have d_g2 := fun o o2 => ((g2.alloc o).alloc o2).cell; have e_g2 := fun o => (g2.alloc o).free
          have c_g3 := g3.cell; have f_g3 := g3.free; have a_g3 := fun o => (g3.alloc o).cell; have d_g3 := fun o o2 => ((g3.alloc o).alloc o2).cell; have e_g3 := fun o => (g3.alloc o).free
          go_wp2_with fail
          refine (alive20_any _).mono ?_
          rintro e wa2 ⟨rfl, b⟩
          replace m0 := cell_later b m0; replace m2 := cell_later b m2; replace m4 := cell_later b m4; try clear c_g1 f_g1 a_g1 d_g1 e_g1
          replace g1 := g1.below b; have c_g1 := g1.cell; have f_g1 := g1.free; have a_g1 := fun o => (g1.alloc o).cell; have d_g1 := fun o o2 => ((g1.alloc o).alloc o2).cell; have e_g1 := fun o => (g1.alloc o).free; try clear c_g2 f_g2 a_g2 d_g2 e_g2
          replace g2 := g2.below b; have c_g2 := g2.cell; have f_g2 := g2.free; have a_g2 := fun o => (g2.alloc o).cell; have d_g2 := fun o o2 => ((g2.alloc o).alloc o2).cell; have e_g2 := fun o => (g2.alloc o).free; try clear c_g3 f_g3 a_g3 d_g3 e_g3
          replace g3 := g3.below b; have c_g3 := g3.cell; have f_g3 := g3.free; have a_g3 := fun o => (g3.alloc o).cell; have d_g3 := fun o o2 => ((g3.alloc o).alloc o2).cell; have e_g3 := fun o => (g3.alloc o).free; replace B := B.trans (b.mono B.size); clear b
          go_wp2_with fail
          refine (FT.out _ (H.out.below B)).mono ?_
          rintro e wa3 ⟨rfl, b⟩
          replace m0 := cell_later b m0; replace m2 := cell_later b m2; replace m4 := cell_later b m4; try clear c_g1 f_g1 a_g1 d_g1 e_g1
          replace g1 := g1.below b; have c_g1 := g1.cell; have f_g1 := g1.free; have a_g1 := fun o => (g1.alloc o).cell; have d_g1 := fun o o2 => ((g1.alloc o).alloc o2).cell; have e_g1 := fun o => (g1.alloc o).free; try clear c_g2 f_g2 a_g2 d_g2 e_g2
          replace g2 := g2.below b; have c_g2 := g2.cell; have f_g2 := g2.free; have a_g2 := fun o => (g2.alloc o).cell; have d_g2 := fun o o2 => ((g2.alloc o).alloc o2).cell; have e_g2 := fun o => (g2.alloc o).free; try clear c_g3 f_g3 a_g3 d_g3 e_g3
          replace g3 := g3.below b; have c_g3 := g3.cell; have f_g3 := g3.free; have a_g3 := fun o => (g3.alloc o).cell; have d_g3 := fun o o2 => ((g3.alloc o).alloc o2).cell; have e_g3 := fun o => (g3.alloc o).free; replace B := B.trans (b.mono B.size); clear b
          go_wp2_with fail
          refine (RT.out _ _ (H.out.below B).s).mono ?_
          rintro e wa4 ⟨rfl, b⟩
          replace m0 := cell_later b m0; replace m2 := cell_later b m2; replace m4 := cell_later b m4; try clear c_g1 f_g1 a_g1 d_g1 e_g1
          replace g1 := g1.below b; have c_g1 := g1.cell; have f_g1 := g1.free; have a_g1 := fun o => (g1.alloc o).cell; have d_g1 := fun o o2 => ((g1.alloc o).alloc o2).cell; have e_g1 := fun o => (g1.alloc o).free; try clear c_g2 f_g2 a_g2 d_g2 e_g2
          replace g2 := g2.below b; have c_g2 := g2.cell; have f_g2 := g2.free; have a_g2 := fun o => (g2.alloc o).cell; have d_g2 := fun o o2 => ((g2.alloc o).alloc o2).cell; have e_g2 := fun o => (g2.alloc o).free; try clear c_g3 f_g3 a_g3 d_g3 e_g3
          replace g3 := g3.below b; have c_g3 := g3.cell; have f_g3 := g3.free; have a_g3 := fun o => (g3.alloc o).cell; have d_g3 := fun o o2 => ((g3.alloc o).alloc o2).cell; have e_g3 := fun o => (g3.alloc o).free; replace B := B.trans (b.mono B.size); clear b
          go_wp2_with fail
          refine (GA.out _ _ _ _ (H.out.below B)).mono ?_
          rintro e wa5 ⟨rfl, b⟩
          replace m0 := cell_later b m0; replace m2 := cell_later b m2; replace m4 := cell_later b m4; try clear c_g1 f_g1 a_g1 d_g1 e_g1
          replace g1 := g1.below b; have c_g1 := g1.cell; have f_g1 := g1.free; have a_g1 := fun o => (g1.alloc o).cell; have d_g1 := fun o o2 => ((g1.alloc o).alloc o2).cell; have e_g1 := fun o => (g1.alloc o).free; try clear c_g2 f_g2 a_g2 d_g2 e_g2
          replace g2 := g2.below b; have c_g2 := g2.cell; have f_g2 := g2.free; have a_g2 := fun o => (g2.alloc o).cell; have d_g2 := fun o o2 => ((g2.alloc o).alloc o2).cell; have e_g2 := fun o => (g2.alloc o).free; try clear c_g3 f_g3 a_g3 d_g3 e_g3
          replace g3 := g3.below b; have c_g3 := g3.cell; have f_g3 := g3.free; have a_g3 := fun o => (g3.alloc o).cell; have d_g3 := fun o o2 => ((g3.alloc o).alloc o2).cell; have e_g3 := fun o => (g3.alloc o).free; replace B := B.trans (b.mono B.size); clear b
          go_wp2_with fail
          refine (SA.out _ _ _ _ (H.out.below B)).mono ?_
          rintro e wa6 ⟨u1, u2, u3, rfl, k1, b⟩
          replace m0 := cell_later b m0; replace m2 := cell_later b m2; replace m4 := cell_later b m4; try clear c_g1 f_g1 a_g1 d_g1 e_g1
          replace g1 := g1.below b; have c_g1 := g1.cell; have f_g1 := g1.free; have a_g1 := fun o => (g1.alloc o).cell; have d_g1 := fun o o2 => ((g1.alloc o).alloc o2).cell; have e_g1 := fun o => (g1.alloc o).free; try clear c_g2 f_g2 a_g2 d_g2 e_g2
          replace g2 := g2.below b; have c_g2 := g2.cell; have f_g2 := g2.free; have a_g2 := fun o => (g2.alloc o).cell; have d_g2 := fun o o2 => ((g2.alloc o).alloc o2).cell; have e_g2 := fun o => (g2.alloc o).free; try clear c_g3 f_g3 a_g3 d_g3 e_g3
          replace g3 := g3.below b; have c_g3 := g3.cell; have f_g3 := g3.free; have a_g3 := fun o => (g3.alloc o).cell; have d_g3 := fun o o2 => ((g3.alloc o).alloc o2).cell; have e_g3 := fun o => (g3.alloc o).free; replace B := B.trans (b.mono B.size); clear b
          obtain ⟨⟨u1A, u1n, u1c, rfl⟩, ⟨u2A, u2n, u2c, rfl⟩, ⟨u3A, u3n, u3c, rfl⟩⟩ := k1.forms
          clear k1
          go_upto_region 10 with (fail)
          refine wp_gen (fun Wv => Bx Wv (wa6.heap.size) (26) (#[.slice u1A u1n u1c, .slice u2A u2n u2c, .slice u3A u3n u3c]) ∧ Below wa6.heap.size wa6 Wv) ⟨((Bx.at_ (by simp))), ((Below.refl _ wa6).alloc (by simp <;> omega) _)⟩ ?_
          rintro wa7 ⟨g4, b⟩
          replace m0 := cell_later b m0; replace m2 := cell_later b m2; replace m4 := cell_later b m4; try clear c_g1 f_g1 a_g1 d_g1 e_g1
          replace g1 := g1.below b; have c_g1 := g1.cell; have f_g1 := g1.free; have a_g1 := fun o => (g1.alloc o).cell; have d_g1 := fun o o2 => ((g1.alloc o).alloc o2).cell; have e_g1 := fun o => (g1.alloc o).free; try clear c_g2 f_g2 a_g2 d_g2 e_g2
          replace g2 := g2.below b; have c_g2 := g2.cell; have f_g2 := g2.free; have a_g2 := fun o => (g2.alloc o).cell; have d_g2 := fun o o2 => ((g2.alloc o).alloc o2).cell; have e_g2 := fun o => (g2.alloc o).free; try clear c_g3 f_g3 a_g3 d_g3 e_g3
          replace g3 := g3.below b; have c_g3 := g3.cell; have f_g3 := g3.free; have a_g3 := fun o => (g3.alloc o).cell; have d_g3 := fun o o2 => ((g3.alloc o).alloc o2).cell; have e_g3 := fun o => (g3.alloc o).free; replace B := B.trans (b.mono B.size); clear b
          have c_g4 := g4.cell; have f_g4 := g4.free; have a_g4 := fun o => (g4.alloc o).cell; have d_g4 := fun o o2 => ((g4.alloc o).alloc o2).cell; have e_g4 := fun o => (g4.alloc o).free
          go_wp2_with fail
          refine (SR.out _ _ _ _ _ (H.out.below B) ⟨_, rfl, g3⟩).mono ?_
          rintro e wa8 ⟨y1, y2, y3, rfl, k3, b⟩
          replace m0 := cell_later b m0; replace m2 := cell_later b m2; replace m4 := cell_later b m4; try clear c_g1 f_g1 a_g1 d_g1 e_g1
          replace g1 := g1.below b; have c_g1 := g1.cell; have f_g1 := g1.free; have a_g1 := fun o => (g1.alloc o).cell; have d_g1 := fun o o2 => ((g1.alloc o).alloc o2).cell; have e_g1 := fun o => (g1.alloc o).free; try clear c_g2 f_g2 a_g2 d_g2 e_g2
          replace g2 := g2.below b; have c_g2 := g2.cell; have f_g2 := g2.free; have a_g2 := fun o => (g2.alloc o).cell; have d_g2 := fun o o2 => ((g2.alloc o).alloc o2).cell; have e_g2 := fun o => (g2.alloc o).free; try clear c_g3 f_g3 a_g3 d_g3 e_g3
          replace g3 := g3.below b; have c_g3 := g3.cell; have f_g3 := g3.free; have a_g3 := fun o => (g3.alloc o).cell; have d_g3 := fun o o2 => ((g3.alloc o).alloc o2).cell; have e_g3 := fun o => (g3.alloc o).free; try clear c_g4 f_g4 a_g4 d_g4 e_g4
          replace g4 := g4.below b; have c_g4 := g4.cell; have f_g4 := g4.free; have a_g4 := fun o => (g4.alloc o).cell; have d_g4 := fun o o2 => ((g4.alloc o).alloc o2).cell; have e_g4 := fun o => (g4.alloc o).free; replace B := B.trans (b.mono B.size); clear b
          obtain ⟨⟨y1A, y1n, y1c, rfl⟩, ⟨y2A, y2n, y2c, rfl⟩, ⟨y3A, y3n, y3c, rfl⟩⟩ := k3.forms
          go_upto_region 16 with (fail)
          refine wp_gen (fun Wv => Bx Wv (wa8.heap.size) (26) (#[.slice y1A y1n y1c, .slice y2A y2n y2c, .slice y3A y3n y3c]) ∧ Below wa8.heap.size wa8 Wv) ⟨((Bx.at_ (by simp))), ((Below.refl _ wa8).alloc (by simp <;> omega) _)⟩ ?_
          rintro wa9 ⟨g6, b⟩
          replace m0 := cell_later b m0; replace m2 := cell_later b m2; replace m4 := cell_later b m4; try clear c_g1 f_g1 a_g1 d_g1 e_g1
          replace g1 := g1.below b; have c_g1 := g1.cell; have f_g1 := g1.free; have a_g1 := fun o => (g1.alloc o).cell; have d_g1 := fun o o2 => ((g1.alloc o).alloc o2).cell; have e_g1 := fun o => (g1.alloc o).free; try clear c_g2 f_g2 a_g2 d_g2 e_g2
          replace g2 := g2.below b; have c_g2 := g2.cell; have f_g2 := g2.free; have a_g2 := fun o => (g2.alloc o).cell; have d_g2 := fun o o2 => ((g2.alloc o).alloc o2).cell; have e_g2 := fun o => (g2.alloc o).free; try clear c_g3 f_g3 a_g3 d_g3 e_g3
          replace g3 := g3.below b; have c_g3 := g3.cell; have f_g3 := g3.free; have a_g3 := fun o => (g3.alloc o).cell; have d_g3 := fun o o2 => ((g3.alloc o).alloc o2).cell; have e_g3 := fun o => (g3.alloc o).free; try clear c_g4 f_g4 a_g4 d_g4 e_g4
          replace g4 := g4.below b; have c_g4 := g4.cell; have f_g4 := g4.free; have a_g4 := fun o => (g4.alloc o).cell; have d_g4 := fun o o2 => ((g4.alloc o).alloc o2).cell; have e_g4 := fun o => (g4.alloc o).free; replace k3 := k3.below b; replace B := B.trans (b.mono B.size); clear b
          have c_g6 := g6.cell; have f_g6 := g6.free; have a_g6 := fun o => (g6.alloc o).cell; have d_g6 := fun o o2 => ((g6.alloc o).alloc o2).cell; have e_g6 := fun o => (g6.alloc o).free
          go_wp2_with fail
          refine (RU.out _ _ (H.out.below B).s).mono ?_
          rintro e wa10 ⟨rfl, b⟩
          replace m0 := cell_later b m0; replace m2 := cell_later b m2; replace m4 := cell_later b m4; try clear c_g1 f_g1 a_g1 d_g1 e_g1
          replace g1 := g1.below b; have c_g1 := g1.cell; have f_g1 := g1.free; have a_g1 := fun o => (g1.alloc o).cell; have d_g1 := fun o o2 => ((g1.alloc o).alloc o2).cell; have e_g1 := fun o => (g1.alloc o).free; try clear c_g2 f_g2 a_g2 d_g2 e_g2
          replace g2 := g2.below b; have c_g2 := g2.cell; have f_g2 := g2.free; have a_g2 := fun o => (g2.alloc o).cell; have d_g2 := fun o o2 => ((g2.alloc o).alloc o2).cell; have e_g2 := fun o => (g2.alloc o).free; try clear c_g3 f_g3 a_g3 d_g3 e_g3
          replace g3 := g3.below b; have c_g3 := g3.cell; have f_g3 := g3.free; have a_g3 := fun o => (g3.alloc o).cell; have d_g3 := fun o o2 => ((g3.alloc o).alloc o2).cell; have e_g3 := fun o => (g3.alloc o).free; try clear c_g4 f_g4 a_g4 d_g4 e_g4
          replace g4 := g4.below b; have c_g4 := g4.cell; have f_g4 := g4.free; have a_g4 := fun o => (g4.alloc o).cell; have d_g4 := fun o o2 => ((g4.alloc o).alloc o2).cell; have e_g4 := fun o => (g4.alloc o).free; replace k3 := k3.below b; try clear c_g6 f_g6 a_g6 d_g6 e_g6
          replace g6 := g6.below b; have c_g6 := g6.cell; have f_g6 := g6.free; have a_g6 := fun o => (g6.alloc o).cell; have d_g6 := fun o o2 => ((g6.alloc o).alloc o2).cell; have e_g6 := fun o => (g6.alloc o).free; replace B := B.trans (b.mono B.size); clear b
          go_wp2
          go_ret
          exact ⟨rfl, B⟩
        case pos =>
          subst h1
          obtain ⟨k2, q, rfl, hk2, hs2, hown2, hq, hq9⟩ := to_idx E.hc hr1.symm
          obtain ⟨y0, hy0⟩ : ∃ y, y = UInt64.ofNat (q + 1) := ⟨_, rfl⟩
          have hyn : (y0.toNat : Int) = (q : Int) + 1 := by rw [hy0, UInt64.toNat_ofNat', Nat.mod_eq_of_lt (by omega)]; rfl
          have hyz : y0 ≠ 0 := by intro e; rw [e] at hyn; simp at hyn; omega
          have hyo : FdOk m.objs.length kd y0 := ⟨fun h2 => by omega, fun _ => by omega⟩
          have E3 := E.put hyo
          have E5 := E.put (v := 0) ⟨fun h2 => by omega, fun _ => by simp⟩
          have hpp : putF (putF m n i y0) n i 0 = putF m n i 0 := L20.putF_putF E.hn
          have SR := Lib.hid (fun t o s pv w h h2 => SetRef20_any t o s m k b0 i pv (some ((k2 : Int), b1)) (putF m n i y0) 0 (by rw [E.refM _ h3 hr1.symm]; show _ = putF m n i (UInt64.ofNat (own m k2 + 1)); rw [hown2, hy0]) (by rw [E.ref _ h3]; exact hr1) w h h2)
          have KA := Lib.hid (fun t o s w h => Check20_any t o s (putF m n i y0) 0 E3.hc.symm w h)
          have BT := Lib.hid (fun ta oa sa tb ob sb w ha hb => but_any ta oa sa tb ob sb m n i y0 o' x0 EE.out.2.1 E.ho E.hx w ha hb)
          have BU := Lib.hid (fun ta oa sa tb ob sb w ha hb => but_any ta oa sa tb ob sb m n i 0 o' x0 EE.out.2.1 E.ho E.hx w ha hb)
          have hN3 := E3.refN h3
          have SN := Lib.hid (fun t o s pv w h h2 => SetRef20_any t o s (putF m n i y0) k b0 i pv none (putF m n i 0) 0 (by rw [hN3.2, hpp]) hN3.1.symm w h h2)
          obtain ⟨M6, hM6⟩ : ∃ M, M = rootM (putF m n i 0) k b0 i := ⟨_, rfl⟩
          obtain ⟨s6, hs6⟩ : ∃ M, M = rootS (putF m n i 0) k b0 i := ⟨_, rfl⟩
          obtain ⟨g6_, hg6⟩ : ∃ M, M = rootG (putF m n i 0) k b0 i := ⟨_, rfl⟩
          have R6 := Lib.hid (fun t o s w h => Root20_any t o s (putF m n i 0) k b0 i M6 6 s6 g6_ hM6 (E5.root0 h3 rfl).symm hs6 hg6 w h)
          obtain ⟨M4, hM4⟩ : ∃ M, M = rootM (putF m n i y0) k b0 i := ⟨_, rfl⟩
          obtain ⟨r4, hr4⟩ : ∃ M, M = rootE (putF m n i y0) k b0 i := ⟨_, rfl⟩
          obtain ⟨s4, hs4⟩ : ∃ M, M = rootS (putF m n i y0) k b0 i := ⟨_, rfl⟩
          obtain ⟨g4_, hg4⟩ : ∃ M, M = rootG (putF m n i y0) k b0 i := ⟨_, rfl⟩
          have R4 := Lib.hid (fun t o s w h => Root20_any t o s (putF m n i y0) k b0 i M4 r4 s4 g4_ hM4 hr4 hs4 hg4 w h)
          have hroot := E3.root h3 hyz
          rw [← hM4, ← hr4, ← hs4, ← hg4] at hroot
          have HR := Lib.hid hroot
          have E3h := Lib.hid (And.intro E3.ho (And.intro E3.hx E3.hi))
          have h16 := (chk_ok E.hc).2.2.1
          obtain ⟨bs2, qs2, s2', js2, _, _, m7, hs2'⟩ := hm.s.at_ (P := Try.prog) Try.underlying24 size_slot (k := k2) (by omega)
          obtain rfl : s2' = ⟨b1, true, q⟩ := by have := hs2'.out; rw [hs2] at this; injection this with this; exact this.symm
          dsimp only at m7
          have HQ := Lib.hid (And.intro hyn h16)
          have hlen3 : (⟨o'.ty, o'.fs.set i y0⟩ : Ob).fs.length = L := by rw [EE.out.2.2.1]; exact List.length_set
          have hlenN : (putF m n i y0).objs.length = N := by rw [len_putF, EE.out.2.2.2]
          have HL3 := Lib.hid (And.intro hlen3 hlenN)
          have hw1 : IntKind.u64.wrap (q : Int) = (q : Int) := by show (q : Int) % 18446744073709551616 = _; omega
          have hw2 : IntKind.u64.wrap ((q : Int) + 1) = (q : Int) + 1 := by show ((q : Int) + 1) % 18446744073709551616 = _; omega
          have hbb : (((q : Int) + 1) != ((q : Int) + 1)) = false := bne_self_eq_false _
          have hd1 : decide ((N : Int) ≤ (n : Int)) = false := decide_eq_false n_N
          have hd3 : decide (N ≤ n) = false := decide_eq_false (by omega)
          have hd4 : decide (L ≤ i) = false := decide_eq_false (by omega)
          have hd2 : decide ((L : Int) ≤ (i : Int)) = false := decide_eq_false n2
          clear E E3 E5 hGa hM4 hM6 hs4 hs6 hg4 hg6 hr4 hr1 hW hyn hyz hyo hpp hN3 hroot hs2 hs2' hown2 hq hy0 h16 hlen3 hlenN
          go_enter Try.func7, Try.ntmps7
          go_upto_region 1 with (fail)
          refine wp_gen (fun Wv => Bx Wv (w.heap.size) (26) (#[.slice tA tn tc, .slice oA on oc, .slice sA sn sc]) ∧ Bx Wv (w.heap.size + 1) (28) (#[.int .i64 k, .int .i64 b0]) ∧ Bx Wv (w.heap.size + 1 + 1) (28) (#[.int .i64 k2, .int .i64 b1]) ∧ Below w.heap.size w Wv) ⟨((((Bx.at_ (by simp)).alloc _).alloc _)), (((Bx.at_ (by simp)).alloc _)), ((Bx.at_ (by simp))), ((((Below.refl _ w).alloc (by simp <;> omega) _).alloc (by simp <;> omega) _).alloc (by simp <;> omega) _)⟩ ?_
          rintro wa1 ⟨g1, g2, g3, b⟩
          replace m0 := cell_later b m0; replace m2 := cell_later b m2; replace m4 := cell_later b m4; replace m7 := cell_later b m7; replace B := B.trans (b.mono B.size); clear b
          have c_g1 := g1.cell; have f_g1 := g1.free; have a_g1 := fun o => (g1.alloc o).cell; have d_g1 := fun o o2 => ((g1.alloc o).alloc o2).cell; have e_g1 := fun o => (g1.alloc o).free
          have c_g2 := g2.cell; have f_g2 := g2.free; have a_g2 := fun o => (g2.alloc o).cell; have d_g2 := fun o o2 => ((g2.alloc o).alloc o2).cell; have e_g2 := fun o => (g2.alloc o).free
          have c_g3 := g3.cell; have f_g3 := g3.free; have a_g3 := fun o => (g3.alloc o).cell; have d_g3 := fun o o2 => ((g3.alloc o).alloc o2).cell; have e_g3 := fun o => (g3.alloc o).free
          go_wp2_with fail
          refine (alive20_any _).mono ?_
          rintro e wa2 ⟨rfl, b⟩
          replace m0 := cell_later b m0; replace m2 := cell_later b m2; replace m4 := cell_later b m4; replace m7 := cell_later b m7; try clear c_g1 f_g1 a_g1 d_g1 e_g1
          replace g1 := g1.below b; have c_g1 := g1.cell; have f_g1 := g1.free; have a_g1 := fun o => (g1.alloc o).cell; have d_g1 := fun o o2 => ((g1.alloc o).alloc o2).cell; have e_g1 := fun o => (g1.alloc o).free; try clear c_g2 f_g2 a_g2 d_g2 e_g2
          replace g2 := g2.below b; have c_g2 := g2.cell; have f_g2 := g2.free; have a_g2 := fun o => (g2.alloc o).cell; have d_g2 := fun o o2 => ((g2.alloc o).alloc o2).cell; have e_g2 := fun o => (g2.alloc o).free; try clear c_g3 f_g3 a_g3 d_g3 e_g3
          replace g3 := g3.below b; have c_g3 := g3.cell; have f_g3 := g3.free; have a_g3 := fun o => (g3.alloc o).cell; have d_g3 := fun o o2 => ((g3.alloc o).alloc o2).cell; have e_g3 := fun o => (g3.alloc o).free; replace B := B.trans (b.mono B.size); clear b
          go_wp2_with fail
          refine (FT.out _ (H.out.below B)).mono ?_
          rintro e wa3 ⟨rfl, b⟩
          replace m0 := cell_later b m0; replace m2 := cell_later b m2; replace m4 := cell_later b m4; replace m7 := cell_later b m7; try clear c_g1 f_g1 a_g1 d_g1 e_g1
          replace g1 := g1.below b; have c_g1 := g1.cell; have f_g1 := g1.free; have a_g1 := fun o => (g1.alloc o).cell; have d_g1 := fun o o2 => ((g1.alloc o).alloc o2).cell; have e_g1 := fun o => (g1.alloc o).free; try clear c_g2 f_g2 a_g2 d_g2 e_g2
          replace g2 := g2.below b; have c_g2 := g2.cell; have f_g2 := g2.free; have a_g2 := fun o => (g2.alloc o).cell; have d_g2 := fun o o2 => ((g2.alloc o).alloc o2).cell; have e_g2 := fun o => (g2.alloc o).free; try clear c_g3 f_g3 a_g3 d_g3 e_g3
          replace g3 := g3.below b; have c_g3 := g3.cell; have f_g3 := g3.free; have a_g3 := fun o => (g3.alloc o).cell; have d_g3 := fun o o2 => ((g3.alloc o).alloc o2).cell; have e_g3 := fun o => (g3.alloc o).free; replace B := B.trans (b.mono B.size); clear b
          go_wp2_with fail
          refine (RT.out _ _ (H.out.below B).s).mono ?_
          rintro e wa4 ⟨rfl, b⟩
          replace m0 := cell_later b m0; replace m2 := cell_later b m2; replace m4 := cell_later b m4; replace m7 := cell_later b m7; try clear c_g1 f_g1 a_g1 d_g1 e_g1
          replace g1 := g1.below b; have c_g1 := g1.cell; have f_g1 := g1.free; have a_g1 := fun o => (g1.alloc o).cell; have d_g1 := fun o o2 => ((g1.alloc o).alloc o2).cell; have e_g1 := fun o => (g1.alloc o).free; try clear c_g2 f_g2 a_g2 d_g2 e_g2
          replace g2 := g2.below b; have c_g2 := g2.cell; have f_g2 := g2.free; have a_g2 := fun o => (g2.alloc o).cell; have d_g2 := fun o o2 => ((g2.alloc o).alloc o2).cell; have e_g2 := fun o => (g2.alloc o).free; try clear c_g3 f_g3 a_g3 d_g3 e_g3
          replace g3 := g3.below b; have c_g3 := g3.cell; have f_g3 := g3.free; have a_g3 := fun o => (g3.alloc o).cell; have d_g3 := fun o o2 => ((g3.alloc o).alloc o2).cell; have e_g3 := fun o => (g3.alloc o).free; replace B := B.trans (b.mono B.size); clear b
          go_wp2_with fail
          refine (GA.out _ _ _ _ (H.out.below B)).mono ?_
          rintro e wa5 ⟨rfl, b⟩
          replace m0 := cell_later b m0; replace m2 := cell_later b m2; replace m4 := cell_later b m4; replace m7 := cell_later b m7; try clear c_g1 f_g1 a_g1 d_g1 e_g1
          replace g1 := g1.below b; have c_g1 := g1.cell; have f_g1 := g1.free; have a_g1 := fun o => (g1.alloc o).cell; have d_g1 := fun o o2 => ((g1.alloc o).alloc o2).cell; have e_g1 := fun o => (g1.alloc o).free; try clear c_g2 f_g2 a_g2 d_g2 e_g2
          replace g2 := g2.below b; have c_g2 := g2.cell; have f_g2 := g2.free; have a_g2 := fun o => (g2.alloc o).cell; have d_g2 := fun o o2 => ((g2.alloc o).alloc o2).cell; have e_g2 := fun o => (g2.alloc o).free; try clear c_g3 f_g3 a_g3 d_g3 e_g3
          replace g3 := g3.below b; have c_g3 := g3.cell; have f_g3 := g3.free; have a_g3 := fun o => (g3.alloc o).cell; have d_g3 := fun o o2 => ((g3.alloc o).alloc o2).cell; have e_g3 := fun o => (g3.alloc o).free; replace B := B.trans (b.mono B.size); clear b
          go_wp2_with fail
          refine (SA.out _ _ _ _ (H.out.below B)).mono ?_
          rintro e wa6 ⟨u1, u2, u3, rfl, k1, b⟩
          replace m0 := cell_later b m0; replace m2 := cell_later b m2; replace m4 := cell_later b m4; replace m7 := cell_later b m7; try clear c_g1 f_g1 a_g1 d_g1 e_g1
          replace g1 := g1.below b; have c_g1 := g1.cell; have f_g1 := g1.free; have a_g1 := fun o => (g1.alloc o).cell; have d_g1 := fun o o2 => ((g1.alloc o).alloc o2).cell; have e_g1 := fun o => (g1.alloc o).free; try clear c_g2 f_g2 a_g2 d_g2 e_g2
          replace g2 := g2.below b; have c_g2 := g2.cell; have f_g2 := g2.free; have a_g2 := fun o => (g2.alloc o).cell; have d_g2 := fun o o2 => ((g2.alloc o).alloc o2).cell; have e_g2 := fun o => (g2.alloc o).free; try clear c_g3 f_g3 a_g3 d_g3 e_g3
          replace g3 := g3.below b; have c_g3 := g3.cell; have f_g3 := g3.free; have a_g3 := fun o => (g3.alloc o).cell; have d_g3 := fun o o2 => ((g3.alloc o).alloc o2).cell; have e_g3 := fun o => (g3.alloc o).free; replace B := B.trans (b.mono B.size); clear b
          obtain ⟨⟨u1A, u1n, u1c, rfl⟩, ⟨u2A, u2n, u2c, rfl⟩, ⟨u3A, u3n, u3c, rfl⟩⟩ := k1.forms
          clear k1
          go_upto_region 10 with (fail)
          refine wp_gen (fun Wv => Bx Wv (wa6.heap.size) (26) (#[.slice u1A u1n u1c, .slice u2A u2n u2c, .slice u3A u3n u3c]) ∧ Below wa6.heap.size wa6 Wv) ⟨((Bx.at_ (by simp))), ((Below.refl _ wa6).alloc (by simp <;> omega) _)⟩ ?_
          rintro wa7 ⟨g4, b⟩
          replace m0 := cell_later b m0; replace m2 := cell_later b m2; replace m4 := cell_later b m4; replace m7 := cell_later b m7; try clear c_g1 f_g1 a_g1 d_g1 e_g1
          replace g1 := g1.below b; have c_g1 := g1.cell; have f_g1 := g1.free; have a_g1 := fun o => (g1.alloc o).cell; have d_g1 := fun o o2 => ((g1.alloc o).alloc o2).cell; have e_g1 := fun o => (g1.alloc o).free; try clear c_g2 f_g2 a_g2 d_g2 e_g2
          replace g2 := g2.below b; have c_g2 := g2.cell; have f_g2 := g2.free; have a_g2 := fun o => (g2.alloc o).cell; have d_g2 := fun o o2 => ((g2.alloc o).alloc o2).cell; have e_g2 := fun o => (g2.alloc o).free; try clear c_g3 f_g3 a_g3 d_g3 e_g3
          replace g3 := g3.below b; have c_g3 := g3.cell; have f_g3 := g3.free; have a_g3 := fun o => (g3.alloc o).cell; have d_g3 := fun o o2 => ((g3.alloc o).alloc o2).cell; have e_g3 := fun o => (g3.alloc o).free; replace B := B.trans (b.mono B.size); clear b
          have c_g4 := g4.cell; have f_g4 := g4.free; have a_g4 := fun o => (g4.alloc o).cell; have d_g4 := fun o o2 => ((g4.alloc o).alloc o2).cell; have e_g4 := fun o => (g4.alloc o).free
          go_wp2_with fail
          refine (SR.out _ _ _ _ _ (H.out.below B) ⟨_, rfl, g3⟩).mono ?_
          rintro e wa8 ⟨y1, y2, y3, rfl, k3, b⟩
          replace m0 := cell_later b m0; replace m2 := cell_later b m2; replace m4 := cell_later b m4; replace m7 := cell_later b m7; try clear c_g1 f_g1 a_g1 d_g1 e_g1
          replace g1 := g1.below b; have c_g1 := g1.cell; have f_g1 := g1.free; have a_g1 := fun o => (g1.alloc o).cell; have d_g1 := fun o o2 => ((g1.alloc o).alloc o2).cell; have e_g1 := fun o => (g1.alloc o).free; try clear c_g2 f_g2 a_g2 d_g2 e_g2
          replace g2 := g2.below b; have c_g2 := g2.cell; have f_g2 := g2.free; have a_g2 := fun o => (g2.alloc o).cell; have d_g2 := fun o o2 => ((g2.alloc o).alloc o2).cell; have e_g2 := fun o => (g2.alloc o).free; try clear c_g3 f_g3 a_g3 d_g3 e_g3
          replace g3 := g3.below b; have c_g3 := g3.cell; have f_g3 := g3.free; have a_g3 := fun o => (g3.alloc o).cell; have d_g3 := fun o o2 => ((g3.alloc o).alloc o2).cell; have e_g3 := fun o => (g3.alloc o).free; try clear c_g4 f_g4 a_g4 d_g4 e_g4
          replace g4 := g4.below b; have c_g4 := g4.cell; have f_g4 := g4.free; have a_g4 := fun o => (g4.alloc o).cell; have d_g4 := fun o o2 => ((g4.alloc o).alloc o2).cell; have e_g4 := fun o => (g4.alloc o).free; replace B := B.trans (b.mono B.size); clear b
          obtain ⟨⟨y1A, y1n, y1c, rfl⟩, ⟨y2A, y2n, y2c, rfl⟩, ⟨y3A, y3n, y3c, rfl⟩⟩ := k3.forms
          go_upto_region 16 with (fail)
          refine wp_gen (fun Wv => Bx Wv (wa8.heap.size) (26) (#[.slice y1A y1n y1c, .slice y2A y2n y2c, .slice y3A y3n y3c]) ∧ Below wa8.heap.size wa8 Wv) ⟨((Bx.at_ (by simp))), ((Below.refl _ wa8).alloc (by simp <;> omega) _)⟩ ?_
          rintro wa9 ⟨g6, b⟩
          replace m0 := cell_later b m0; replace m2 := cell_later b m2; replace m4 := cell_later b m4; replace m7 := cell_later b m7; try clear c_g1 f_g1 a_g1 d_g1 e_g1
          replace g1 := g1.below b; have c_g1 := g1.cell; have f_g1 := g1.free; have a_g1 := fun o => (g1.alloc o).cell; have d_g1 := fun o o2 => ((g1.alloc o).alloc o2).cell; have e_g1 := fun o => (g1.alloc o).free; try clear c_g2 f_g2 a_g2 d_g2 e_g2
          replace g2 := g2.below b; have c_g2 := g2.cell; have f_g2 := g2.free; have a_g2 := fun o => (g2.alloc o).cell; have d_g2 := fun o o2 => ((g2.alloc o).alloc o2).cell; have e_g2 := fun o => (g2.alloc o).free; try clear c_g3 f_g3 a_g3 d_g3 e_g3
          replace g3 := g3.below b; have c_g3 := g3.cell; have f_g3 := g3.free; have a_g3 := fun o => (g3.alloc o).cell; have d_g3 := fun o o2 => ((g3.alloc o).alloc o2).cell; have e_g3 := fun o => (g3.alloc o).free; try clear c_g4 f_g4 a_g4 d_g4 e_g4
          replace g4 := g4.below b; have c_g4 := g4.cell; have f_g4 := g4.free; have a_g4 := fun o => (g4.alloc o).cell; have d_g4 := fun o o2 => ((g4.alloc o).alloc o2).cell; have e_g4 := fun o => (g4.alloc o).free; replace k3 := k3.below b; replace B := B.trans (b.mono B.size); clear b
          have c_g6 := g6.cell; have f_g6 := g6.free; have a_g6 := fun o => (g6.alloc o).cell; have d_g6 := fun o o2 => ((g6.alloc o).alloc o2).cell; have e_g6 := fun o => (g6.alloc o).free
          go_wp2_with fail
          refine (RU.out _ _ (H.out.below B).s).mono ?_
          rintro e wa10 ⟨rfl, b⟩
          replace m0 := cell_later b m0; replace m2 := cell_later b m2; replace m4 := cell_later b m4; replace m7 := cell_later b m7; try clear c_g1 f_g1 a_g1 d_g1 e_g1
          replace g1 := g1.below b; have c_g1 := g1.cell; have f_g1 := g1.free; have a_g1 := fun o => (g1.alloc o).cell; have d_g1 := fun o o2 => ((g1.alloc o).alloc o2).cell; have e_g1 := fun o => (g1.alloc o).free; try clear c_g2 f_g2 a_g2 d_g2 e_g2
          replace g2 := g2.below b; have c_g2 := g2.cell; have f_g2 := g2.free; have a_g2 := fun o => (g2.alloc o).cell; have d_g2 := fun o o2 => ((g2.alloc o).alloc o2).cell; have e_g2 := fun o => (g2.alloc o).free; try clear c_g3 f_g3 a_g3 d_g3 e_g3
          replace g3 := g3.below b; have c_g3 := g3.cell; have f_g3 := g3.free; have a_g3 := fun o => (g3.alloc o).cell; have d_g3 := fun o o2 => ((g3.alloc o).alloc o2).cell; have e_g3 := fun o => (g3.alloc o).free; try clear c_g4 f_g4 a_g4 d_g4 e_g4
          replace g4 := g4.below b; have c_g4 := g4.cell; have f_g4 := g4.free; have a_g4 := fun o => (g4.alloc o).cell; have d_g4 := fun o o2 => ((g4.alloc o).alloc o2).cell; have e_g4 := fun o => (g4.alloc o).free; replace k3 := k3.below b; try clear c_g6 f_g6 a_g6 d_g6 e_g6
          replace g6 := g6.below b; have c_g6 := g6.cell; have f_g6 := g6.free; have a_g6 := fun o => (g6.alloc o).cell; have d_g6 := fun o o2 => ((g6.alloc o).alloc o2).cell; have e_g6 := fun o => (g6.alloc o).free; replace B := B.trans (b.mono B.size); clear b
          obtain ⟨bo3, qo3, xv3, o3', jo3, _, m8, ho3', hW3, _⟩ := k3.o.at_ (k := n) (List.getElem?_eq_some_iff.1 E3h.out.1).1
          obtain rfl : o3' = ⟨o'.ty, o'.fs.set i y0⟩ := by have := ho3'.out; rw [E3h.out.1] at this; injection this with this; exact this.symm
          obtain ⟨x3A, x3n, x3c, rfl⟩ : ∃ A n c, xv3 = .slice A n c := by obtain ⟨A, c, e, _⟩ := hW3.out; exact ⟨_, _, _, e⟩
          have lx3 := Rd.len hW3.out Try.underlying70
          obtain ⟨ad3, xx3, ia3, m9, hxx3⟩ := hW3.out.at_ (P := Try.prog) Try.underlying70 one_u64 (k := i) E3h.out.2.2
          obtain rfl : xx3 = y0 := by have := hxx3.out; rw [E3h.out.2.1] at this; injection this with this; exact this.symm
          have lo3 := k3.o.len
          rw [HL3.out.1] at lx3; rw [HL3.out.2] at lo3
          rw [HQ.out.1] at m9
          have HH := Lib.hid (fun z : Fut _ => H.out.below (B.trans (z.h.mono B.size)))
          have K3 := Lib.hid (fun z : Fut _ => k3.below z.h)
          clear hxx3 ho3' hW3
          go_upto_region 20 with (fail)
          refine wp_region_calm (by kernel_rfl) (by kernel_rfl) ?_
          try clear c_g1 f_g1 a_g1 d_g1 e_g1
          have c_g1 := fun x : Fut _ => (g1.below x.h).cell
          try clear c_g2 f_g2 a_g2 d_g2 e_g2
          have c_g2 := fun x : Fut _ => (g2.below x.h).cell
          try clear c_g3 f_g3 a_g3 d_g3 e_g3
          have c_g3 := fun x : Fut _ => (g3.below x.h).cell
          try clear c_g4 f_g4 a_g4 d_g4 e_g4
          have c_g4 := fun x : Fut _ => (g4.below x.h).cell
          try clear c_g6 f_g6 a_g6 d_g6 e_g6
          have c_g6 := fun x : Fut _ => (g6.below x.h).cell
          have c_m0 := fun x : Fut _ => cell_later x.h m0
          have c_m2 := fun x : Fut _ => cell_later x.h m2
          have c_m4 := fun x : Fut _ => cell_later x.h m4
          have c_m7 := fun x : Fut _ => cell_later x.h m7
          have c_m8 := fun x : Fut _ => cell_later x.h m8
          have c_m9 := fun x : Fut _ => cell_later x.h m9
          repeat (go_big_quiet_step (first | exact Fut.call (KA.out _ _ _ _ (K3.out _)) | exact Fut.call (BT.out _ _ _ _ _ _ _ (HH.out _) (K3.out _))))
          refine wpQuiet_nil ?_
          intro _ hw'
          obtain ⟨xq, hw''⟩ := hw'
          subst hw''
          clear c_m0; replace m0 := cell_later xq.h m0
          clear c_m2; replace m2 := cell_later xq.h m2
          clear c_m4; replace m4 := cell_later xq.h m4
          clear c_m7; replace m7 := cell_later xq.h m7
          clear c_m8; replace m8 := cell_later xq.h m8
          clear c_m9; replace m9 := cell_later xq.h m9
          clear c_g1; replace g1 := g1.below xq.h; have c_g1 := g1.cell; have f_g1 := g1.free; have a_g1 := fun o => (g1.alloc o).cell; have d_g1 := fun o o2 => ((g1.alloc o).alloc o2).cell; have e_g1 := fun o => (g1.alloc o).free
          clear c_g2; replace g2 := g2.below xq.h; have c_g2 := g2.cell; have f_g2 := g2.free; have a_g2 := fun o => (g2.alloc o).cell; have d_g2 := fun o o2 => ((g2.alloc o).alloc o2).cell; have e_g2 := fun o => (g2.alloc o).free
          clear c_g3; replace g3 := g3.below xq.h; have c_g3 := g3.cell; have f_g3 := g3.free; have a_g3 := fun o => (g3.alloc o).cell; have d_g3 := fun o o2 => ((g3.alloc o).alloc o2).cell; have e_g3 := fun o => (g3.alloc o).free
          clear c_g4; replace g4 := g4.below xq.h; have c_g4 := g4.cell; have f_g4 := g4.free; have a_g4 := fun o => (g4.alloc o).cell; have d_g4 := fun o o2 => ((g4.alloc o).alloc o2).cell; have e_g4 := fun o => (g4.alloc o).free
          clear c_g6; replace g6 := g6.below xq.h; have c_g6 := g6.cell; have f_g6 := g6.free; have a_g6 := fun o => (g6.alloc o).cell; have d_g6 := fun o o2 => ((g6.alloc o).alloc o2).cell; have e_g6 := fun o => (g6.alloc o).free
          replace k3 := k3.below xq.h
          replace B := B.trans (xq.h.mono B.size)
          clear HH K3
          go_wp2_with fail
          refine (R4.out _ _ _ _ k3).mono ?_
          rintro e wa11 ⟨z1, z2, z3, rfl, k4, b⟩
          replace m0 := cell_later b m0; replace m2 := cell_later b m2; replace m4 := cell_later b m4; replace m7 := cell_later b m7; replace m8 := cell_later b m8; replace m9 := cell_later b m9; try clear c_g1 f_g1 a_g1 d_g1 e_g1
          replace g1 := g1.below b; have c_g1 := g1.cell; have f_g1 := g1.free; have a_g1 := fun o => (g1.alloc o).cell; have d_g1 := fun o o2 => ((g1.alloc o).alloc o2).cell; have e_g1 := fun o => (g1.alloc o).free; try clear c_g2 f_g2 a_g2 d_g2 e_g2
          replace g2 := g2.below b; have c_g2 := g2.cell; have f_g2 := g2.free; have a_g2 := fun o => (g2.alloc o).cell; have d_g2 := fun o o2 => ((g2.alloc o).alloc o2).cell; have e_g2 := fun o => (g2.alloc o).free; try clear c_g3 f_g3 a_g3 d_g3 e_g3
          replace g3 := g3.below b; have c_g3 := g3.cell; have f_g3 := g3.free; have a_g3 := fun o => (g3.alloc o).cell; have d_g3 := fun o o2 => ((g3.alloc o).alloc o2).cell; have e_g3 := fun o => (g3.alloc o).free; try clear c_g4 f_g4 a_g4 d_g4 e_g4
          replace g4 := g4.below b; have c_g4 := g4.cell; have f_g4 := g4.free; have a_g4 := fun o => (g4.alloc o).cell; have d_g4 := fun o o2 => ((g4.alloc o).alloc o2).cell; have e_g4 := fun o => (g4.alloc o).free; try clear c_g6 f_g6 a_g6 d_g6 e_g6
          replace g6 := g6.below b; have c_g6 := g6.cell; have f_g6 := g6.free; have a_g6 := fun o => (g6.alloc o).cell; have d_g6 := fun o o2 => ((g6.alloc o).alloc o2).cell; have e_g6 := fun o => (g6.alloc o).free; replace k3 := k3.below b; replace B := B.trans (b.mono B.size); clear b
          obtain ⟨⟨z1A, z1n, z1c, rfl⟩, ⟨z2A, z2n, z2c, rfl⟩, ⟨z3A, z3n, z3c, rfl⟩⟩ := k4.forms
          go_upto_region 23 with (fail)
          refine wp_gen (fun Wv => Bx Wv (wa11.heap.size) (26) (#[.slice z1A z1n z1c, .slice z2A z2n z2c, .slice z3A z3n z3c]) ∧ Bx Wv (wa11.heap.size + 1) (28) (#[.int .i64 s4, .int .i64 g4_]) ∧ Below wa11.heap.size wa11 Wv) ⟨(((Bx.at_ (by simp)).alloc _)), ((Bx.at_ (by simp))), (((Below.refl _ wa11).alloc (by simp <;> omega) _).alloc (by simp <;> omega) _)⟩ ?_
          rintro wa12 ⟨g7, g8, b⟩
          replace m0 := cell_later b m0; replace m2 := cell_later b m2; replace m4 := cell_later b m4; replace m7 := cell_later b m7; replace m8 := cell_later b m8; replace m9 := cell_later b m9; try clear c_g1 f_g1 a_g1 d_g1 e_g1
          replace g1 := g1.below b; have c_g1 := g1.cell; have f_g1 := g1.free; have a_g1 := fun o => (g1.alloc o).cell; have d_g1 := fun o o2 => ((g1.alloc o).alloc o2).cell; have e_g1 := fun o => (g1.alloc o).free; try clear c_g2 f_g2 a_g2 d_g2 e_g2
          replace g2 := g2.below b; have c_g2 := g2.cell; have f_g2 := g2.free; have a_g2 := fun o => (g2.alloc o).cell; have d_g2 := fun o o2 => ((g2.alloc o).alloc o2).cell; have e_g2 := fun o => (g2.alloc o).free; try clear c_g3 f_g3 a_g3 d_g3 e_g3
          replace g3 := g3.below b; have c_g3 := g3.cell; have f_g3 := g3.free; have a_g3 := fun o => (g3.alloc o).cell; have d_g3 := fun o o2 => ((g3.alloc o).alloc o2).cell; have e_g3 := fun o => (g3.alloc o).free; try clear c_g4 f_g4 a_g4 d_g4 e_g4
          replace g4 := g4.below b; have c_g4 := g4.cell; have f_g4 := g4.free; have a_g4 := fun o => (g4.alloc o).cell; have d_g4 := fun o o2 => ((g4.alloc o).alloc o2).cell; have e_g4 := fun o => (g4.alloc o).free; try clear c_g6 f_g6 a_g6 d_g6 e_g6
          replace g6 := g6.below b; have c_g6 := g6.cell; have f_g6 := g6.free; have a_g6 := fun o => (g6.alloc o).cell; have d_g6 := fun o o2 => ((g6.alloc o).alloc o2).cell; have e_g6 := fun o => (g6.alloc o).free; replace k3 := k3.below b; replace k4 := k4.below b; replace B := B.trans (b.mono B.size); clear b
          have c_g7 := g7.cell; have f_g7 := g7.free; have a_g7 := fun o => (g7.alloc o).cell; have d_g7 := fun o o2 => ((g7.alloc o).alloc o2).cell; have e_g7 := fun o => (g7.alloc o).free
          have c_g8 := g8.cell; have f_g8 := g8.free; have a_g8 := fun o => (g8.alloc o).cell; have d_g8 := fun o o2 => ((g8.alloc o).alloc o2).cell; have e_g8 := fun o => (g8.alloc o).free
          have hz := HR.out
          clear HR R4
          rcases hz with hz | ⟨hz, kk, g0, hkk, _, e1, e2, _, _, hc4, hri4, hsl4⟩
          · rw [hz]
            clear hz
            refine wp_region_calm (by kernel_rfl) (by kernel_rfl) ?_
            try clear c_g1 f_g1 a_g1 d_g1 e_g1
            have c_g1 := fun x : Fut _ => (g1.below x.h).cell
            try clear c_g2 f_g2 a_g2 d_g2 e_g2
            have c_g2 := fun x : Fut _ => (g2.below x.h).cell
            try clear c_g3 f_g3 a_g3 d_g3 e_g3
            have c_g3 := fun x : Fut _ => (g3.below x.h).cell
            try clear c_g4 f_g4 a_g4 d_g4 e_g4
            have c_g4 := fun x : Fut _ => (g4.below x.h).cell
            try clear c_g6 f_g6 a_g6 d_g6 e_g6
            have c_g6 := fun x : Fut _ => (g6.below x.h).cell
            try clear c_g7 f_g7 a_g7 d_g7 e_g7
            have c_g7 := fun x : Fut _ => (g7.below x.h).cell
            try clear c_g8 f_g8 a_g8 d_g8 e_g8
            have c_g8 := fun x : Fut _ => (g8.below x.h).cell
            have c_m0 := fun x : Fut _ => cell_later x.h m0
            have c_m2 := fun x : Fut _ => cell_later x.h m2
            have c_m4 := fun x : Fut _ => cell_later x.h m4
            have c_m7 := fun x : Fut _ => cell_later x.h m7
            have c_m8 := fun x : Fut _ => cell_later x.h m8
            have c_m9 := fun x : Fut _ => cell_later x.h m9
            repeat (go_big_quiet_step (fail))
            refine wpQuiet_nil ?_
            intro _ hw'
            obtain ⟨xq, hw''⟩ := hw'
            subst hw''
            clear c_m0; replace m0 := cell_later xq.h m0
            clear c_m2; replace m2 := cell_later xq.h m2
            clear c_m4; replace m4 := cell_later xq.h m4
            clear c_m7; replace m7 := cell_later xq.h m7
            clear c_m8; replace m8 := cell_later xq.h m8
            clear c_m9; replace m9 := cell_later xq.h m9
            clear c_g1; replace g1 := g1.below xq.h; have c_g1 := g1.cell; have f_g1 := g1.free; have a_g1 := fun o => (g1.alloc o).cell; have d_g1 := fun o o2 => ((g1.alloc o).alloc o2).cell; have e_g1 := fun o => (g1.alloc o).free
            clear c_g2; replace g2 := g2.below xq.h; have c_g2 := g2.cell; have f_g2 := g2.free; have a_g2 := fun o => (g2.alloc o).cell; have d_g2 := fun o o2 => ((g2.alloc o).alloc o2).cell; have e_g2 := fun o => (g2.alloc o).free
            clear c_g3; replace g3 := g3.below xq.h; have c_g3 := g3.cell; have f_g3 := g3.free; have a_g3 := fun o => (g3.alloc o).cell; have d_g3 := fun o o2 => ((g3.alloc o).alloc o2).cell; have e_g3 := fun o => (g3.alloc o).free
            clear c_g4; replace g4 := g4.below xq.h; have c_g4 := g4.cell; have f_g4 := g4.free; have a_g4 := fun o => (g4.alloc o).cell; have d_g4 := fun o o2 => ((g4.alloc o).alloc o2).cell; have e_g4 := fun o => (g4.alloc o).free
            clear c_g6; replace g6 := g6.below xq.h; have c_g6 := g6.cell; have f_g6 := g6.free; have a_g6 := fun o => (g6.alloc o).cell; have d_g6 := fun o o2 => ((g6.alloc o).alloc o2).cell; have e_g6 := fun o => (g6.alloc o).free
            replace k3 := k3.below xq.h
            replace k4 := k4.below xq.h
            clear c_g7; replace g7 := g7.below xq.h; have c_g7 := g7.cell; have f_g7 := g7.free; have a_g7 := fun o => (g7.alloc o).cell; have d_g7 := fun o o2 => ((g7.alloc o).alloc o2).cell; have e_g7 := fun o => (g7.alloc o).free
            clear c_g8; replace g8 := g8.below xq.h; have c_g8 := g8.cell; have f_g8 := g8.free; have a_g8 := fun o => (g8.alloc o).cell; have d_g8 := fun o o2 => ((g8.alloc o).alloc o2).cell; have e_g8 := fun o => (g8.alloc o).free
            replace B := B.trans (xq.h.mono B.size)
            go_wp2_with fail
            refine (SN.out _ _ _ _ _ k3 rfl).mono ?_
            rintro e wa13 ⟨p1, p2, p3, rfl, k5, b⟩
            replace m0 := cell_later b m0; replace m2 := cell_later b m2; replace m4 := cell_later b m4; replace m7 := cell_later b m7; replace m8 := cell_later b m8; replace m9 := cell_later b m9; try clear c_g1 f_g1 a_g1 d_g1 e_g1
            replace g1 := g1.below b; have c_g1 := g1.cell; have f_g1 := g1.free; have a_g1 := fun o => (g1.alloc o).cell; have d_g1 := fun o o2 => ((g1.alloc o).alloc o2).cell; have e_g1 := fun o => (g1.alloc o).free; try clear c_g2 f_g2 a_g2 d_g2 e_g2
            replace g2 := g2.below b; have c_g2 := g2.cell; have f_g2 := g2.free; have a_g2 := fun o => (g2.alloc o).cell; have d_g2 := fun o o2 => ((g2.alloc o).alloc o2).cell; have e_g2 := fun o => (g2.alloc o).free; try clear c_g3 f_g3 a_g3 d_g3 e_g3
            replace g3 := g3.below b; have c_g3 := g3.cell; have f_g3 := g3.free; have a_g3 := fun o => (g3.alloc o).cell; have d_g3 := fun o o2 => ((g3.alloc o).alloc o2).cell; have e_g3 := fun o => (g3.alloc o).free; try clear c_g4 f_g4 a_g4 d_g4 e_g4
            replace g4 := g4.below b; have c_g4 := g4.cell; have f_g4 := g4.free; have a_g4 := fun o => (g4.alloc o).cell; have d_g4 := fun o o2 => ((g4.alloc o).alloc o2).cell; have e_g4 := fun o => (g4.alloc o).free; try clear c_g6 f_g6 a_g6 d_g6 e_g6
            replace g6 := g6.below b; have c_g6 := g6.cell; have f_g6 := g6.free; have a_g6 := fun o => (g6.alloc o).cell; have d_g6 := fun o o2 => ((g6.alloc o).alloc o2).cell; have e_g6 := fun o => (g6.alloc o).free; replace k3 := k3.below b; replace k4 := k4.below b; try clear c_g7 f_g7 a_g7 d_g7 e_g7
            replace g7 := g7.below b; have c_g7 := g7.cell; have f_g7 := g7.free; have a_g7 := fun o => (g7.alloc o).cell; have d_g7 := fun o o2 => ((g7.alloc o).alloc o2).cell; have e_g7 := fun o => (g7.alloc o).free; try clear c_g8 f_g8 a_g8 d_g8 e_g8
            replace g8 := g8.below b; have c_g8 := g8.cell; have f_g8 := g8.free; have a_g8 := fun o => (g8.alloc o).cell; have d_g8 := fun o o2 => ((g8.alloc o).alloc o2).cell; have e_g8 := fun o => (g8.alloc o).free; replace B := B.trans (b.mono B.size); clear b
            obtain ⟨⟨p1A, p1n, p1c, rfl⟩, ⟨p2A, p2n, p2c, rfl⟩, ⟨p3A, p3n, p3c, rfl⟩⟩ := k5.forms
            go_upto_region 26 with (fail)
            refine wp_gen (fun Wv => Bx Wv (wa13.heap.size) (26) (#[.slice p1A p1n p1c, .slice p2A p2n p2c, .slice p3A p3n p3c]) ∧ Below wa13.heap.size wa13 Wv) ⟨((Bx.at_ (by simp))), ((Below.refl _ wa13).alloc (by simp <;> omega) _)⟩ ?_
            rintro wa14 ⟨g9, b⟩
            replace m0 := cell_later b m0; replace m2 := cell_later b m2; replace m4 := cell_later b m4; replace m7 := cell_later b m7; replace m8 := cell_later b m8; replace m9 := cell_later b m9; try clear c_g1 f_g1 a_g1 d_g1 e_g1
            replace g1 := g1.below b; have c_g1 := g1.cell; have f_g1 := g1.free; have a_g1 := fun o => (g1.alloc o).cell; have d_g1 := fun o o2 => ((g1.alloc o).alloc o2).cell; have e_g1 := fun o => (g1.alloc o).free; try clear c_g2 f_g2 a_g2 d_g2 e_g2
            replace g2 := g2.below b; have c_g2 := g2.cell; have f_g2 := g2.free; have a_g2 := fun o => (g2.alloc o).cell; have d_g2 := fun o o2 => ((g2.alloc o).alloc o2).cell; have e_g2 := fun o => (g2.alloc o).free; try clear c_g3 f_g3 a_g3 d_g3 e_g3
            replace g3 := g3.below b; have c_g3 := g3.cell; have f_g3 := g3.free; have a_g3 := fun o => (g3.alloc o).cell; have d_g3 := fun o o2 => ((g3.alloc o).alloc o2).cell; have e_g3 := fun o => (g3.alloc o).free; try clear c_g4 f_g4 a_g4 d_g4 e_g4
            replace g4 := g4.below b; have c_g4 := g4.cell; have f_g4 := g4.free; have a_g4 := fun o => (g4.alloc o).cell; have d_g4 := fun o o2 => ((g4.alloc o).alloc o2).cell; have e_g4 := fun o => (g4.alloc o).free; try clear c_g6 f_g6 a_g6 d_g6 e_g6
            replace g6 := g6.below b; have c_g6 := g6.cell; have f_g6 := g6.free; have a_g6 := fun o => (g6.alloc o).cell; have d_g6 := fun o o2 => ((g6.alloc o).alloc o2).cell; have e_g6 := fun o => (g6.alloc o).free; replace k3 := k3.below b; replace k4 := k4.below b; try clear c_g7 f_g7 a_g7 d_g7 e_g7
            replace g7 := g7.below b; have c_g7 := g7.cell; have f_g7 := g7.free; have a_g7 := fun o => (g7.alloc o).cell; have d_g7 := fun o o2 => ((g7.alloc o).alloc o2).cell; have e_g7 := fun o => (g7.alloc o).free; try clear c_g8 f_g8 a_g8 d_g8 e_g8
            replace g8 := g8.below b; have c_g8 := g8.cell; have f_g8 := g8.free; have a_g8 := fun o => (g8.alloc o).cell; have d_g8 := fun o o2 => ((g8.alloc o).alloc o2).cell; have e_g8 := fun o => (g8.alloc o).free; replace k5 := k5.below b; replace B := B.trans (b.mono B.size); clear b
            have c_g9 := g9.cell; have f_g9 := g9.free; have a_g9 := fun o => (g9.alloc o).cell; have d_g9 := fun o o2 => ((g9.alloc o).alloc o2).cell; have e_g9 := fun o => (g9.alloc o).free
            go_wp2_with fail
            refine (R6.out _ _ _ _ k5).mono ?_
            rintro e wa15 ⟨q1, q2, q3, rfl, k6, b⟩
            replace m0 := cell_later b m0; replace m2 := cell_later b m2; replace m4 := cell_later b m4; replace m7 := cell_later b m7; replace m8 := cell_later b m8; replace m9 := cell_later b m9; try clear c_g1 f_g1 a_g1 d_g1 e_g1
            replace g1 := g1.below b; have c_g1 := g1.cell; have f_g1 := g1.free; have a_g1 := fun o => (g1.alloc o).cell; have d_g1 := fun o o2 => ((g1.alloc o).alloc o2).cell; have e_g1 := fun o => (g1.alloc o).free; try clear c_g2 f_g2 a_g2 d_g2 e_g2
            replace g2 := g2.below b; have c_g2 := g2.cell; have f_g2 := g2.free; have a_g2 := fun o => (g2.alloc o).cell; have d_g2 := fun o o2 => ((g2.alloc o).alloc o2).cell; have e_g2 := fun o => (g2.alloc o).free; try clear c_g3 f_g3 a_g3 d_g3 e_g3
            replace g3 := g3.below b; have c_g3 := g3.cell; have f_g3 := g3.free; have a_g3 := fun o => (g3.alloc o).cell; have d_g3 := fun o o2 => ((g3.alloc o).alloc o2).cell; have e_g3 := fun o => (g3.alloc o).free; try clear c_g4 f_g4 a_g4 d_g4 e_g4
            replace g4 := g4.below b; have c_g4 := g4.cell; have f_g4 := g4.free; have a_g4 := fun o => (g4.alloc o).cell; have d_g4 := fun o o2 => ((g4.alloc o).alloc o2).cell; have e_g4 := fun o => (g4.alloc o).free; try clear c_g6 f_g6 a_g6 d_g6 e_g6
            replace g6 := g6.below b; have c_g6 := g6.cell; have f_g6 := g6.free; have a_g6 := fun o => (g6.alloc o).cell; have d_g6 := fun o o2 => ((g6.alloc o).alloc o2).cell; have e_g6 := fun o => (g6.alloc o).free; replace k3 := k3.below b; replace k4 := k4.below b; try clear c_g7 f_g7 a_g7 d_g7 e_g7
            replace g7 := g7.below b; have c_g7 := g7.cell; have f_g7 := g7.free; have a_g7 := fun o => (g7.alloc o).cell; have d_g7 := fun o o2 => ((g7.alloc o).alloc o2).cell; have e_g7 := fun o => (g7.alloc o).free; try clear c_g8 f_g8 a_g8 d_g8 e_g8
            replace g8 := g8.below b; have c_g8 := g8.cell; have f_g8 := g8.free; have a_g8 := fun o => (g8.alloc o).cell; have d_g8 := fun o o2 => ((g8.alloc o).alloc o2).cell; have e_g8 := fun o => (g8.alloc o).free; replace k5 := k5.below b; try clear c_g9 f_g9 a_g9 d_g9 e_g9
            replace g9 := g9.below b; have c_g9 := g9.cell; have f_g9 := g9.free; have a_g9 := fun o => (g9.alloc o).cell; have d_g9 := fun o o2 => ((g9.alloc o).alloc o2).cell; have e_g9 := fun o => (g9.alloc o).free; replace B := B.trans (b.mono B.size); clear b
            obtain ⟨⟨q1A, q1n, q1c, rfl⟩, ⟨q2A, q2n, q2c, rfl⟩, ⟨q3A, q3n, q3c, rfl⟩⟩ := k6.forms
            go_upto_region 27 with (fail)
            refine wp_gen (fun Wv => Bx Wv (wa15.heap.size) (26) (#[.slice q1A q1n q1c, .slice q2A q2n q2c, .slice q3A q3n q3c]) ∧ Bx Wv (wa15.heap.size + 1) (28) (#[.int .i64 s6, .int .i64 g6_]) ∧ Below wa15.heap.size wa15 Wv) ⟨(((Bx.at_ (by simp)).alloc _)), ((Bx.at_ (by simp))), (((Below.refl _ wa15).alloc (by simp <;> omega) _).alloc (by simp <;> omega) _)⟩ ?_
            rintro wa16 ⟨g10, g11, b⟩
            replace m0 := cell_later b m0; replace m2 := cell_later b m2; replace m4 := cell_later b m4; replace m7 := cell_later b m7; replace m8 := cell_later b m8; replace m9 := cell_later b m9; try clear c_g1 f_g1 a_g1 d_g1 e_g1
            replace g1 := g1.below b; have c_g1 := g1.cell; have f_g1 := g1.free; have a_g1 := fun o => (g1.alloc o).cell; have d_g1 := fun o o2 => ((g1.alloc o).alloc o2).cell; have e_g1 := fun o => (g1.alloc o).free; try clear c_g2 f_g2 a_g2 d_g2 e_g2
            replace g2 := g2.below b; have c_g2 := g2.cell; have f_g2 := g2.free; have a_g2 := fun o => (g2.alloc o).cell; have d_g2 := fun o o2 => ((g2.alloc o).alloc o2).cell; have e_g2 := fun o => (g2.alloc o).free; try clear c_g3 f_g3 a_g3 d_g3 e_g3
            replace g3 := g3.below b; have c_g3 := g3.cell; have f_g3 := g3.free; have a_g3 := fun o => (g3.alloc o).cell; have d_g3 := fun o o2 => ((g3.alloc o).alloc o2).cell; have e_g3 := fun o => (g3.alloc o).free; try clear c_g4 f_g4 a_g4 d_g4 e_g4
            replace g4 := g4.below b; have c_g4 := g4.cell; have f_g4 := g4.free; have a_g4 := fun o => (g4.alloc o).cell; have d_g4 := fun o o2 => ((g4.alloc o).alloc o2).cell; have e_g4 := fun o => (g4.alloc o).free; try clear c_g6 f_g6 a_g6 d_g6 e_g6
            replace g6 := g6.below b; have c_g6 := g6.cell; have f_g6 := g6.free; have a_g6 := fun o => (g6.alloc o).cell; have d_g6 := fun o o2 => ((g6.alloc o).alloc o2).cell; have e_g6 := fun o => (g6.alloc o).free; replace k3 := k3.below b; replace k4 := k4.below b; try clear c_g7 f_g7 a_g7 d_g7 e_g7
            replace g7 := g7.below b; have c_g7 := g7.cell; have f_g7 := g7.free; have a_g7 := fun o => (g7.alloc o).cell; have d_g7 := fun o o2 => ((g7.alloc o).alloc o2).cell; have e_g7 := fun o => (g7.alloc o).free; try clear c_g8 f_g8 a_g8 d_g8 e_g8
            replace g8 := g8.below b; have c_g8 := g8.cell; have f_g8 := g8.free; have a_g8 := fun o => (g8.alloc o).cell; have d_g8 := fun o o2 => ((g8.alloc o).alloc o2).cell; have e_g8 := fun o => (g8.alloc o).free; replace k5 := k5.below b; try clear c_g9 f_g9 a_g9 d_g9 e_g9
            replace g9 := g9.below b; have c_g9 := g9.cell; have f_g9 := g9.free; have a_g9 := fun o => (g9.alloc o).cell; have d_g9 := fun o o2 => ((g9.alloc o).alloc o2).cell; have e_g9 := fun o => (g9.alloc o).free; replace k6 := k6.below b; replace B := B.trans (b.mono B.size); clear b
            have c_g10 := g10.cell; have f_g10 := g10.free; have a_g10 := fun o => (g10.alloc o).cell; have d_g10 := fun o o2 => ((g10.alloc o).alloc o2).cell; have e_g10 := fun o => (g10.alloc o).free
            have c_g11 := g11.cell; have f_g11 := g11.free; have a_g11 := fun o => (g11.alloc o).cell; have d_g11 := fun o o2 => ((g11.alloc o).alloc o2).cell; have e_g11 := fun o => (g11.alloc o).free
            go_wp2_with fail
            refine (BU.out _ _ _ _ _ _ _ (H.out.below B) k5).mono ?_
            rintro e wa17 ⟨rfl, b⟩
            replace m0 := cell_later b m0; replace m2 := cell_later b m2; replace m4 := cell_later b m4; replace m7 := cell_later b m7; replace m8 := cell_later b m8; replace m9 := cell_later b m9; try clear c_g1 f_g1 a_g1 d_g1 e_g1
            replace g1 := g1.below b; have c_g1 := g1.cell; have f_g1 := g1.free; have a_g1 := fun o => (g1.alloc o).cell; have d_g1 := fun o o2 => ((g1.alloc o).alloc o2).cell; have e_g1 := fun o => (g1.alloc o).free; try clear c_g2 f_g2 a_g2 d_g2 e_g2
            replace g2 := g2.below b; have c_g2 := g2.cell; have f_g2 := g2.free; have a_g2 := fun o => (g2.alloc o).cell; have d_g2 := fun o o2 => ((g2.alloc o).alloc o2).cell; have e_g2 := fun o => (g2.alloc o).free; try clear c_g3 f_g3 a_g3 d_g3 e_g3
            replace g3 := g3.below b; have c_g3 := g3.cell; have f_g3 := g3.free; have a_g3 := fun o => (g3.alloc o).cell; have d_g3 := fun o o2 => ((g3.alloc o).alloc o2).cell; have e_g3 := fun o => (g3.alloc o).free; try clear c_g4 f_g4 a_g4 d_g4 e_g4
            replace g4 := g4.below b; have c_g4 := g4.cell; have f_g4 := g4.free; have a_g4 := fun o => (g4.alloc o).cell; have d_g4 := fun o o2 => ((g4.alloc o).alloc o2).cell; have e_g4 := fun o => (g4.alloc o).free; try clear c_g6 f_g6 a_g6 d_g6 e_g6
            replace g6 := g6.below b; have c_g6 := g6.cell; have f_g6 := g6.free; have a_g6 := fun o => (g6.alloc o).cell; have d_g6 := fun o o2 => ((g6.alloc o).alloc o2).cell; have e_g6 := fun o => (g6.alloc o).free; replace k3 := k3.below b; replace k4 := k4.below b; try clear c_g7 f_g7 a_g7 d_g7 e_g7
            replace g7 := g7.below b; have c_g7 := g7.cell; have f_g7 := g7.free; have a_g7 := fun o => (g7.alloc o).cell; have d_g7 := fun o o2 => ((g7.alloc o).alloc o2).cell; have e_g7 := fun o => (g7.alloc o).free; try clear c_g8 f_g8 a_g8 d_g8 e_g8
            replace g8 := g8.below b; have c_g8 := g8.cell; have f_g8 := g8.free; have a_g8 := fun o => (g8.alloc o).cell; have d_g8 := fun o o2 => ((g8.alloc o).alloc o2).cell; have e_g8 := fun o => (g8.alloc o).free; replace k5 := k5.below b; try clear c_g9 f_g9 a_g9 d_g9 e_g9
            replace g9 := g9.below b; have c_g9 := g9.cell; have f_g9 := g9.free; have a_g9 := fun o => (g9.alloc o).cell; have d_g9 := fun o o2 => ((g9.alloc o).alloc o2).cell; have e_g9 := fun o => (g9.alloc o).free; replace k6 := k6.below b; try clear c_g10 f_g10 a_g10 d_g10 e_g10
            replace g10 := g10.below b; have c_g10 := g10.cell; have f_g10 := g10.free; have a_g10 := fun o => (g10.alloc o).cell; have d_g10 := fun o o2 => ((g10.alloc o).alloc o2).cell; have e_g10 := fun o => (g10.alloc o).free; try clear c_g11 f_g11 a_g11 d_g11 e_g11
            replace g11 := g11.below b; have c_g11 := g11.cell; have f_g11 := g11.free; have a_g11 := fun o => (g11.alloc o).cell; have d_g11 := fun o o2 => ((g11.alloc o).alloc o2).cell; have e_g11 := fun o => (g11.alloc o).free; replace B := B.trans (b.mono B.size); clear b
            go_wp2
            go_ret
            exact ⟨rfl, B⟩
          · subst hz; subst e1; subst e2
            have hl4 := (chk_ok hc4).2.2.1
            have KZ := Lib.hid (fun t o s w h => Check20_any t o s M4 0 hc4.symm w h)
            have RZ := Lib.hid (fun v w h => RightR_any v M4.slots kk (g0 + 1) 0 hri4.symm w h)
            obtain ⟨bz, qz, sz, jz, _, _, m10, hsz⟩ := k4.s.at_ (P := Try.prog) Try.underlying24 size_slot (k := kk) (by omega)
            obtain rfl : sz = ⟨g0 + 1, true, (xx3.toNat - 1 : Nat)⟩ := by have := hsz.out; rw [hsl4] at this; injection this with this; exact this.symm
            have hq1 : ((xx3.toNat - 1 : Nat) : Int) = (q : Int) := by have := HQ.out.1; omega
            dsimp only at m10
            rw [hq1] at m10
            have K4 := Lib.hid (fun z : Fut _ => k4.below z.h)
            clear hc4 hri4 hsl4 hl4 hsz hq1
            refine wp_region_calm (by kernel_rfl) (by kernel_rfl) ?_
            try clear c_g1 f_g1 a_g1 d_g1 e_g1
            have c_g1 := fun x : Fut _ => (g1.below x.h).cell
            try clear c_g2 f_g2 a_g2 d_g2 e_g2
            have c_g2 := fun x : Fut _ => (g2.below x.h).cell
            try clear c_g3 f_g3 a_g3 d_g3 e_g3
            have c_g3 := fun x : Fut _ => (g3.below x.h).cell
            try clear c_g4 f_g4 a_g4 d_g4 e_g4
            have c_g4 := fun x : Fut _ => (g4.below x.h).cell
            try clear c_g6 f_g6 a_g6 d_g6 e_g6
            have c_g6 := fun x : Fut _ => (g6.below x.h).cell
            try clear c_g7 f_g7 a_g7 d_g7 e_g7
            have c_g7 := fun x : Fut _ => (g7.below x.h).cell
            try clear c_g8 f_g8 a_g8 d_g8 e_g8
            have c_g8 := fun x : Fut _ => (g8.below x.h).cell
            have c_m0 := fun x : Fut _ => cell_later x.h m0
            have c_m2 := fun x : Fut _ => cell_later x.h m2
            have c_m4 := fun x : Fut _ => cell_later x.h m4
            have c_m7 := fun x : Fut _ => cell_later x.h m7
            have c_m8 := fun x : Fut _ => cell_later x.h m8
            have c_m9 := fun x : Fut _ => cell_later x.h m9
            have c_m10 := fun x : Fut _ => cell_later x.h m10
            repeat (go_big_quiet_step (first | exact Fut.call (KZ.out _ _ _ _ (K4.out _)) | exact Fut.call (RZ.out _ _ (K4.out _).s)))
            refine wpQuiet_nil ?_
            intro _ hw'
            obtain ⟨xq, hw''⟩ := hw'
            subst hw''
            clear c_m0; replace m0 := cell_later xq.h m0
            clear c_m2; replace m2 := cell_later xq.h m2
            clear c_m4; replace m4 := cell_later xq.h m4
            clear c_m7; replace m7 := cell_later xq.h m7
            clear c_m8; replace m8 := cell_later xq.h m8
            clear c_m9; replace m9 := cell_later xq.h m9
            clear c_g1; replace g1 := g1.below xq.h; have c_g1 := g1.cell; have f_g1 := g1.free; have a_g1 := fun o => (g1.alloc o).cell; have d_g1 := fun o o2 => ((g1.alloc o).alloc o2).cell; have e_g1 := fun o => (g1.alloc o).free
            clear c_g2; replace g2 := g2.below xq.h; have c_g2 := g2.cell; have f_g2 := g2.free; have a_g2 := fun o => (g2.alloc o).cell; have d_g2 := fun o o2 => ((g2.alloc o).alloc o2).cell; have e_g2 := fun o => (g2.alloc o).free
            clear c_g3; replace g3 := g3.below xq.h; have c_g3 := g3.cell; have f_g3 := g3.free; have a_g3 := fun o => (g3.alloc o).cell; have d_g3 := fun o o2 => ((g3.alloc o).alloc o2).cell; have e_g3 := fun o => (g3.alloc o).free
            clear c_g4; replace g4 := g4.below xq.h; have c_g4 := g4.cell; have f_g4 := g4.free; have a_g4 := fun o => (g4.alloc o).cell; have d_g4 := fun o o2 => ((g4.alloc o).alloc o2).cell; have e_g4 := fun o => (g4.alloc o).free
            clear c_g6; replace g6 := g6.below xq.h; have c_g6 := g6.cell; have f_g6 := g6.free; have a_g6 := fun o => (g6.alloc o).cell; have d_g6 := fun o o2 => ((g6.alloc o).alloc o2).cell; have e_g6 := fun o => (g6.alloc o).free
            replace k3 := k3.below xq.h
            replace k4 := k4.below xq.h
            clear c_g7; replace g7 := g7.below xq.h; have c_g7 := g7.cell; have f_g7 := g7.free; have a_g7 := fun o => (g7.alloc o).cell; have d_g7 := fun o o2 => ((g7.alloc o).alloc o2).cell; have e_g7 := fun o => (g7.alloc o).free
            clear c_g8; replace g8 := g8.below xq.h; have c_g8 := g8.cell; have f_g8 := g8.free; have a_g8 := fun o => (g8.alloc o).cell; have d_g8 := fun o o2 => ((g8.alloc o).alloc o2).cell; have e_g8 := fun o => (g8.alloc o).free
            clear c_m10; replace m10 := cell_later xq.h m10
            replace B := B.trans (xq.h.mono B.size)
            go_wp2_with fail
            refine (SN.out _ _ _ _ _ k3 rfl).mono ?_
            rintro e wa18 ⟨p1, p2, p3, rfl, k5, b⟩
            replace m0 := cell_later b m0; replace m2 := cell_later b m2; replace m4 := cell_later b m4; replace m7 := cell_later b m7; replace m8 := cell_later b m8; replace m9 := cell_later b m9; try clear c_g1 f_g1 a_g1 d_g1 e_g1
            replace g1 := g1.below b; have c_g1 := g1.cell; have f_g1 := g1.free; have a_g1 := fun o => (g1.alloc o).cell; have d_g1 := fun o o2 => ((g1.alloc o).alloc o2).cell; have e_g1 := fun o => (g1.alloc o).free; try clear c_g2 f_g2 a_g2 d_g2 e_g2
            replace g2 := g2.below b; have c_g2 := g2.cell; have f_g2 := g2.free; have a_g2 := fun o => (g2.alloc o).cell; have d_g2 := fun o o2 => ((g2.alloc o).alloc o2).cell; have e_g2 := fun o => (g2.alloc o).free; try clear c_g3 f_g3 a_g3 d_g3 e_g3
            replace g3 := g3.below b; have c_g3 := g3.cell; have f_g3 := g3.free; have a_g3 := fun o => (g3.alloc o).cell; have d_g3 := fun o o2 => ((g3.alloc o).alloc o2).cell; have e_g3 := fun o => (g3.alloc o).free; try clear c_g4 f_g4 a_g4 d_g4 e_g4
            replace g4 := g4.below b; have c_g4 := g4.cell; have f_g4 := g4.free; have a_g4 := fun o => (g4.alloc o).cell; have d_g4 := fun o o2 => ((g4.alloc o).alloc o2).cell; have e_g4 := fun o => (g4.alloc o).free; try clear c_g6 f_g6 a_g6 d_g6 e_g6
            replace g6 := g6.below b; have c_g6 := g6.cell; have f_g6 := g6.free; have a_g6 := fun o => (g6.alloc o).cell; have d_g6 := fun o o2 => ((g6.alloc o).alloc o2).cell; have e_g6 := fun o => (g6.alloc o).free; replace k3 := k3.below b; replace k4 := k4.below b; try clear c_g7 f_g7 a_g7 d_g7 e_g7
            replace g7 := g7.below b; have c_g7 := g7.cell; have f_g7 := g7.free; have a_g7 := fun o => (g7.alloc o).cell; have d_g7 := fun o o2 => ((g7.alloc o).alloc o2).cell; have e_g7 := fun o => (g7.alloc o).free; try clear c_g8 f_g8 a_g8 d_g8 e_g8
            replace g8 := g8.below b; have c_g8 := g8.cell; have f_g8 := g8.free; have a_g8 := fun o => (g8.alloc o).cell; have d_g8 := fun o o2 => ((g8.alloc o).alloc o2).cell; have e_g8 := fun o => (g8.alloc o).free; replace m10 := cell_later b m10; replace B := B.trans (b.mono B.size); clear b
            obtain ⟨⟨p1A, p1n, p1c, rfl⟩, ⟨p2A, p2n, p2c, rfl⟩, ⟨p3A, p3n, p3c, rfl⟩⟩ := k5.forms
            go_upto_region 26 with (fail)
            refine wp_gen (fun Wv => Bx Wv (wa18.heap.size) (26) (#[.slice p1A p1n p1c, .slice p2A p2n p2c, .slice p3A p3n p3c]) ∧ Below wa18.heap.size wa18 Wv) ⟨((Bx.at_ (by simp))), ((Below.refl _ wa18).alloc (by simp <;> omega) _)⟩ ?_
            rintro wa19 ⟨g9, b⟩
            replace m0 := cell_later b m0; replace m2 := cell_later b m2; replace m4 := cell_later b m4; replace m7 := cell_later b m7; replace m8 := cell_later b m8; replace m9 := cell_later b m9; try clear c_g1 f_g1 a_g1 d_g1 e_g1
            replace g1 := g1.below b; have c_g1 := g1.cell; have f_g1 := g1.free; have a_g1 := fun o => (g1.alloc o).cell; have d_g1 := fun o o2 => ((g1.alloc o).alloc o2).cell; have e_g1 := fun o => (g1.alloc o).free; try clear c_g2 f_g2 a_g2 d_g2 e_g2
            replace g2 := g2.below b; have c_g2 := g2.cell; have f_g2 := g2.free; have a_g2 := fun o => (g2.alloc o).cell; have d_g2 := fun o o2 => ((g2.alloc o).alloc o2).cell; have e_g2 := fun o => (g2.alloc o).free; try clear c_g3 f_g3 a_g3 d_g3 e_g3
            replace g3 := g3.below b; have c_g3 := g3.cell; have f_g3 := g3.free; have a_g3 := fun o => (g3.alloc o).cell; have d_g3 := fun o o2 => ((g3.alloc o).alloc o2).cell; have e_g3 := fun o => (g3.alloc o).free; try clear c_g4 f_g4 a_g4 d_g4 e_g4
            replace g4 := g4.below b; have c_g4 := g4.cell; have f_g4 := g4.free; have a_g4 := fun o => (g4.alloc o).cell; have d_g4 := fun o o2 => ((g4.alloc o).alloc o2).cell; have e_g4 := fun o => (g4.alloc o).free; try clear c_g6 f_g6 a_g6 d_g6 e_g6
            replace g6 := g6.below b; have c_g6 := g6.cell; have f_g6 := g6.free; have a_g6 := fun o => (g6.alloc o).cell; have d_g6 := fun o o2 => ((g6.alloc o).alloc o2).cell; have e_g6 := fun o => (g6.alloc o).free; replace k3 := k3.below b; replace k4 := k4.below b; try clear c_g7 f_g7 a_g7 d_g7 e_g7
            replace g7 := g7.below b; have c_g7 := g7.cell; have f_g7 := g7.free; have a_g7 := fun o => (g7.alloc o).cell; have d_g7 := fun o o2 => ((g7.alloc o).alloc o2).cell; have e_g7 := fun o => (g7.alloc o).free; try clear c_g8 f_g8 a_g8 d_g8 e_g8
            replace g8 := g8.below b; have c_g8 := g8.cell; have f_g8 := g8.free; have a_g8 := fun o => (g8.alloc o).cell; have d_g8 := fun o o2 => ((g8.alloc o).alloc o2).cell; have e_g8 := fun o => (g8.alloc o).free; replace m10 := cell_later b m10; replace k5 := k5.below b; replace B := B.trans (b.mono B.size); clear b
            have c_g9 := g9.cell; have f_g9 := g9.free; have a_g9 := fun o => (g9.alloc o).cell; have d_g9 := fun o o2 => ((g9.alloc o).alloc o2).cell; have e_g9 := fun o => (g9.alloc o).free
            go_wp2_with fail
            refine (R6.out _ _ _ _ k5).mono ?_
            rintro e wa20 ⟨q1, q2, q3, rfl, k6, b⟩
            replace m0 := cell_later b m0; replace m2 := cell_later b m2; replace m4 := cell_later b m4; replace m7 := cell_later b m7; replace m8 := cell_later b m8; replace m9 := cell_later b m9; try clear c_g1 f_g1 a_g1 d_g1 e_g1
            replace g1 := g1.below b; have c_g1 := g1.cell; have f_g1 := g1.free; have a_g1 := fun o => (g1.alloc o).cell; have d_g1 := fun o o2 => ((g1.alloc o).alloc o2).cell; have e_g1 := fun o => (g1.alloc o).free; try clear c_g2 f_g2 a_g2 d_g2 e_g2
            replace g2 := g2.below b; have c_g2 := g2.cell; have f_g2 := g2.free; have a_g2 := fun o => (g2.alloc o).cell; have d_g2 := fun o o2 => ((g2.alloc o).alloc o2).cell; have e_g2 := fun o => (g2.alloc o).free; try clear c_g3 f_g3 a_g3 d_g3 e_g3
            replace g3 := g3.below b; have c_g3 := g3.cell; have f_g3 := g3.free; have a_g3 := fun o => (g3.alloc o).cell; have d_g3 := fun o o2 => ((g3.alloc o).alloc o2).cell; have e_g3 := fun o => (g3.alloc o).free; try clear c_g4 f_g4 a_g4 d_g4 e_g4
            replace g4 := g4.below b; have c_g4 := g4.cell; have f_g4 := g4.free; have a_g4 := fun o => (g4.alloc o).cell; have d_g4 := fun o o2 => ((g4.alloc o).alloc o2).cell; have e_g4 := fun o => (g4.alloc o).free; try clear c_g6 f_g6 a_g6 d_g6 e_g6
            replace g6 := g6.below b; have c_g6 := g6.cell; have f_g6 := g6.free; have a_g6 := fun o => (g6.alloc o).cell; have d_g6 := fun o o2 => ((g6.alloc o).alloc o2).cell; have e_g6 := fun o => (g6.alloc o).free; replace k3 := k3.below b; replace k4 := k4.below b; try clear c_g7 f_g7 a_g7 d_g7 e_g7
            replace g7 := g7.below b; have c_g7 := g7.cell; have f_g7 := g7.free; have a_g7 := fun o => (g7.alloc o).cell; have d_g7 := fun o o2 => ((g7.alloc o).alloc o2).cell; have e_g7 := fun o => (g7.alloc o).free; try clear c_g8 f_g8 a_g8 d_g8 e_g8
            replace g8 := g8.below b; have c_g8 := g8.cell; have f_g8 := g8.free; have a_g8 := fun o => (g8.alloc o).cell; have d_g8 := fun o o2 => ((g8.alloc o).alloc o2).cell; have e_g8 := fun o => (g8.alloc o).free; replace m10 := cell_later b m10; replace k5 := k5.below b; try clear c_g9 f_g9 a_g9 d_g9 e_g9
            replace g9 := g9.below b; have c_g9 := g9.cell; have f_g9 := g9.free; have a_g9 := fun o => (g9.alloc o).cell; have d_g9 := fun o o2 => ((g9.alloc o).alloc o2).cell; have e_g9 := fun o => (g9.alloc o).free; replace B := B.trans (b.mono B.size); clear b
            obtain ⟨⟨q1A, q1n, q1c, rfl⟩, ⟨q2A, q2n, q2c, rfl⟩, ⟨q3A, q3n, q3c, rfl⟩⟩ := k6.forms
            go_upto_region 27 with (fail)
            refine wp_gen (fun Wv => Bx Wv (wa20.heap.size) (26) (#[.slice q1A q1n q1c, .slice q2A q2n q2c, .slice q3A q3n q3c]) ∧ Bx Wv (wa20.heap.size + 1) (28) (#[.int .i64 s6, .int .i64 g6_]) ∧ Below wa20.heap.size wa20 Wv) ⟨(((Bx.at_ (by simp)).alloc _)), ((Bx.at_ (by simp))), (((Below.refl _ wa20).alloc (by simp <;> omega) _).alloc (by simp <;> omega) _)⟩ ?_
            rintro wa21 ⟨g10, g11, b⟩
            replace m0 := cell_later b m0; replace m2 := cell_later b m2; replace m4 := cell_later b m4; replace m7 := cell_later b m7; replace m8 := cell_later b m8; replace m9 := cell_later b m9; try clear c_g1 f_g1 a_g1 d_g1 e_g1
            replace g1 := g1.below b; have c_g1 := g1.cell; have f_g1 := g1.free; have a_g1 := fun o => (g1.alloc o).cell; have d_g1 := fun o o2 => ((g1.alloc o).alloc o2).cell; have e_g1 := fun o => (g1.alloc o).free; try clear c_g2 f_g2 a_g2 d_g2 e_g2
            replace g2 := g2.below b; have c_g2 := g2.cell; have f_g2 := g2.free; have a_g2 := fun o => (g2.alloc o).cell; have d_g2 := fun o o2 => ((g2.alloc o).alloc o2).cell; have e_g2 := fun o => (g2.alloc o).free; try clear c_g3 f_g3 a_g3 d_g3 e_g3
            replace g3 := g3.below b; have c_g3 := g3.cell; have f_g3 := g3.free; have a_g3 := fun o => (g3.alloc o).cell; have d_g3 := fun o o2 => ((g3.alloc o).alloc o2).cell; have e_g3 := fun o => (g3.alloc o).free; try clear c_g4 f_g4 a_g4 d_g4 e_g4
            replace g4 := g4.below b; have c_g4 := g4.cell; have f_g4 := g4.free; have a_g4 := fun o => (g4.alloc o).cell; have d_g4 := fun o o2 => ((g4.alloc o).alloc o2).cell; have e_g4 := fun o => (g4.alloc o).free; try clear c_g6 f_g6 a_g6 d_g6 e_g6
            replace g6 := g6.below b; have c_g6 := g6.cell; have f_g6 := g6.free; have a_g6 := fun o => (g6.alloc o).cell; have d_g6 := fun o o2 => ((g6.alloc o).alloc o2).cell; have e_g6 := fun o => (g6.alloc o).free; replace k3 := k3.below b; replace k4 := k4.below b; try clear c_g7 f_g7 a_g7 d_g7 e_g7
            replace g7 := g7.below b; have c_g7 := g7.cell; have f_g7 := g7.free; have a_g7 := fun o => (g7.alloc o).cell; have d_g7 := fun o o2 => ((g7.alloc o).alloc o2).cell; have e_g7 := fun o => (g7.alloc o).free; try clear c_g8 f_g8 a_g8 d_g8 e_g8
            replace g8 := g8.below b; have c_g8 := g8.cell; have f_g8 := g8.free; have a_g8 := fun o => (g8.alloc o).cell; have d_g8 := fun o o2 => ((g8.alloc o).alloc o2).cell; have e_g8 := fun o => (g8.alloc o).free; replace m10 := cell_later b m10; replace k5 := k5.below b; try clear c_g9 f_g9 a_g9 d_g9 e_g9
            replace g9 := g9.below b; have c_g9 := g9.cell; have f_g9 := g9.free; have a_g9 := fun o => (g9.alloc o).cell; have d_g9 := fun o o2 => ((g9.alloc o).alloc o2).cell; have e_g9 := fun o => (g9.alloc o).free; replace k6 := k6.below b; replace B := B.trans (b.mono B.size); clear b
            have c_g10 := g10.cell; have f_g10 := g10.free; have a_g10 := fun o => (g10.alloc o).cell; have d_g10 := fun o o2 => ((g10.alloc o).alloc o2).cell; have e_g10 := fun o => (g10.alloc o).free
            have c_g11 := g11.cell; have f_g11 := g11.free; have a_g11 := fun o => (g11.alloc o).cell; have d_g11 := fun o o2 => ((g11.alloc o).alloc o2).cell; have e_g11 := fun o => (g11.alloc o).free
            go_wp2_with fail
            refine (BU.out _ _ _ _ _ _ _ (H.out.below B) k5).mono ?_
            rintro e wa22 ⟨rfl, b⟩
            replace m0 := cell_later b m0; replace m2 := cell_later b m2; replace m4 := cell_later b m4; replace m7 := cell_later b m7; replace m8 := cell_later b m8; replace m9 := cell_later b m9; try clear c_g1 f_g1 a_g1 d_g1 e_g1
            replace g1 := g1.below b; have c_g1 := g1.cell; have f_g1 := g1.free; have a_g1 := fun o => (g1.alloc o).cell; have d_g1 := fun o o2 => ((g1.alloc o).alloc o2).cell; have e_g1 := fun o => (g1.alloc o).free; try clear c_g2 f_g2 a_g2 d_g2 e_g2
            replace g2 := g2.below b; have c_g2 := g2.cell; have f_g2 := g2.free; have a_g2 := fun o => (g2.alloc o).cell; have d_g2 := fun o o2 => ((g2.alloc o).alloc o2).cell; have e_g2 := fun o => (g2.alloc o).free; try clear c_g3 f_g3 a_g3 d_g3 e_g3
            replace g3 := g3.below b; have c_g3 := g3.cell; have f_g3 := g3.free; have a_g3 := fun o => (g3.alloc o).cell; have d_g3 := fun o o2 => ((g3.alloc o).alloc o2).cell; have e_g3 := fun o => (g3.alloc o).free; try clear c_g4 f_g4 a_g4 d_g4 e_g4
            replace g4 := g4.below b; have c_g4 := g4.cell; have f_g4 := g4.free; have a_g4 := fun o => (g4.alloc o).cell; have d_g4 := fun o o2 => ((g4.alloc o).alloc o2).cell; have e_g4 := fun o => (g4.alloc o).free; try clear c_g6 f_g6 a_g6 d_g6 e_g6
            replace g6 := g6.below b; have c_g6 := g6.cell; have f_g6 := g6.free; have a_g6 := fun o => (g6.alloc o).cell; have d_g6 := fun o o2 => ((g6.alloc o).alloc o2).cell; have e_g6 := fun o => (g6.alloc o).free; replace k3 := k3.below b; replace k4 := k4.below b; try clear c_g7 f_g7 a_g7 d_g7 e_g7
            replace g7 := g7.below b; have c_g7 := g7.cell; have f_g7 := g7.free; have a_g7 := fun o => (g7.alloc o).cell; have d_g7 := fun o o2 => ((g7.alloc o).alloc o2).cell; have e_g7 := fun o => (g7.alloc o).free; try clear c_g8 f_g8 a_g8 d_g8 e_g8
            replace g8 := g8.below b; have c_g8 := g8.cell; have f_g8 := g8.free; have a_g8 := fun o => (g8.alloc o).cell; have d_g8 := fun o o2 => ((g8.alloc o).alloc o2).cell; have e_g8 := fun o => (g8.alloc o).free; replace m10 := cell_later b m10; replace k5 := k5.below b; try clear c_g9 f_g9 a_g9 d_g9 e_g9
            replace g9 := g9.below b; have c_g9 := g9.cell; have f_g9 := g9.free; have a_g9 := fun o => (g9.alloc o).cell; have d_g9 := fun o o2 => ((g9.alloc o).alloc o2).cell; have e_g9 := fun o => (g9.alloc o).free; replace k6 := k6.below b; try clear c_g10 f_g10 a_g10 d_g10 e_g10
            replace g10 := g10.below b; have c_g10 := g10.cell; have f_g10 := g10.free; have a_g10 := fun o => (g10.alloc o).cell; have d_g10 := fun o o2 => ((g10.alloc o).alloc o2).cell; have e_g10 := fun o => (g10.alloc o).free; try clear c_g11 f_g11 a_g11 d_g11 e_g11
            replace g11 := g11.below b; have c_g11 := g11.cell; have f_g11 := g11.free; have a_g11 := fun o => (g11.alloc o).cell; have d_g11 := fun o o2 => ((g11.alloc o).alloc o2).cell; have e_g11 := fun o => (g11.alloc o).free; replace B := B.trans (b.mono B.size); clear b
            go_wp2
            go_ret
            exact ⟨rfl, B⟩
end Go.Proofs.Ytgjpohhafmkhcaa
