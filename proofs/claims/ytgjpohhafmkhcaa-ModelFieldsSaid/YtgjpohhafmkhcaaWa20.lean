/- The law ModelFields holds: Get, Set, SetRef and Root are the reference's. -/
import Derived.Test.YtgjpohhafmkhcaaC20y
import Derived.Test.YtgjpohhafmkhcaaFrame4
set_option linter.unusedVariables false
set_option linter.unusedSimpArgs false
namespace Go.Proofs.Ytgjpohhafmkhcaa
open Go.RowKit L02 L13 L18 L20

theorem Mod.forms {w : World} {tv ov sv : Value} {m : Mo} (h : Mod w tv ov sv m) : (∃ A n c, tv = .slice A n c) ∧ (∃ A n c, ov = .slice A n c) ∧ ∃ A n c, sv = .slice A n c := by
  obtain ⟨⟨_, _, ⟨A, c, e, _⟩, _⟩, ⟨_, _, ⟨A', c', e', _⟩, _⟩, ⟨A'', c'', e'', _⟩⟩ := h
  exact ⟨⟨A, _, c, e⟩, ⟨A', _, c', e'⟩, ⟨A'', _, c'', e''⟩⟩
theorem hdl_eql (a b : Int) (W : World) : (binOp .eql 28 (.agg #[.int .i64 a, .int .i64 b]) (.agg #[.int .i64 a, .int .i64 b])).run Try.prog W = .ok (.bool true) W := by
  simp [go_sem]

set_option maxRecDepth 100000 in
set_option maxHeartbeats 16000000 in
theorem ModelFields_walk (tv ov sv : Value) (m : Mo) (a0 b0 a1 b1 : Int) (nn : Bool) (fi : Int) (x : UInt64) (w : World) (h : Mod w tv ov sv m) (_f1 : -9223372036854775808 ≤ a0 ∧ a0 ≤ 9223372036854775807) (_f2 : -9223372036854775808 ≤ b0 ∧ b0 ≤ 9223372036854775807) (_f3 : -9223372036854775808 ≤ a1 ∧ a1 ≤ 9223372036854775807) (_f4 : -9223372036854775808 ≤ b1 ∧ b1 ≤ 9223372036854775807) (_f5 : -9223372036854775808 ≤ fi ∧ fi ≤ 9223372036854775807) :
    Calls Try.prog 3 #[.agg #[tv, ov, sv], .agg #[.int .i64 a0, .int .i64 b0], .agg #[.int .i64 a1, .int .i64 b1], .bool nn, .int .i64 fi, .int .u64 x.toNat] w fun e w' => e = .returned (.bool true) ∧ Below w.heap.size w w' := by
  have B : Below w.heap.size w w := Below.refl _ _
  have hm := h
  obtain ⟨z, hz⟩ : ∃ z, z = decide (Great m) := ⟨_, rfl⟩
  have GT := Lib.hid (fun w h => Great20_any tv ov sv m z hz w h)
  clear _f1 _f2 _f3 _f4 _f5
  cases z
  · have hng : ¬ Great m := by rw [eq_comm, decide_eq_false_iff_not] at hz; exact hz
    have TT := Lib.hid (fun w h => Twin_any tv ov sv m (small_of hng (by unfold Great at hng; omega)) w h)
    obtain ⟨v1, hv1⟩ : ∃ v, v = getV m a0 b0 fi := ⟨_, rfl⟩
    obtain ⟨r1, hr1⟩ : ∃ v, v = getE m a0 b0 fi := ⟨_, rfl⟩
    obtain ⟨M2, hM2⟩ : ∃ v, v = setM m a0 b0 fi x := ⟨_, rfl⟩
    obtain ⟨tt, htt⟩ : ∃ tt : Option (Int × Int), tt = cond nn none (some (a1, b1)) := ⟨_, rfl⟩
    obtain ⟨M3, hM3⟩ : ∃ v, v = refM m a0 b0 fi tt := ⟨_, rfl⟩
    obtain ⟨r3, hr3⟩ : ∃ v, v = refE m a0 b0 fi tt := ⟨_, rfl⟩
    obtain ⟨M4, hM4⟩ : ∃ v, v = rootM m a0 b0 fi := ⟨_, rfl⟩
    obtain ⟨r4, hr4⟩ : ∃ v, v = rootE m a0 b0 fi := ⟨_, rfl⟩
    obtain ⟨hs4, hh4⟩ : ∃ v, v = rootS m a0 b0 fi := ⟨_, rfl⟩
    obtain ⟨hg4, hh5⟩ : ∃ v, v = rootG m a0 b0 fi := ⟨_, rfl⟩
    have GA := Lib.hid (fun t o s w h => Get20_any t o s m a0 b0 fi v1 r1 hv1 hr1 w h)
    have GB := Lib.hid (fun t o s w h => GetR20_any t o s m a0 b0 fi v1 r1 hv1 hr1 w h)
    have SA := Lib.hid (fun t o s w h => Set20_any t o s m a0 b0 fi x M2 r1 hM2 hr1 w h)
    have SB := Lib.hid (fun t o s w h => SetR20_any t o s m a0 b0 fi x M2 r1 hM2 hr1 w h)
    have RA := Lib.hid (fun t o s pv w h h2 => SetRef20_any t o s m a0 b0 fi pv tt M3 r3 hM3 hr3 w h h2)
    have RB := Lib.hid (fun t o s pv w h h2 => SetRefR20_any t o s m a0 b0 fi pv tt M3 r3 hM3 hr3 w h h2)
    have QA := Lib.hid (fun t o s w h => Root20_any t o s m a0 b0 fi M4 r4 hs4 hg4 hM4 hr4 hh4 hh5 w h)
    have QB := Lib.hid (fun t o s w h => RootR20_any t o s m a0 b0 fi M4 r4 hs4 hg4 hM4 hr4 hh4 hh5 w h)
    have SM := Lib.hid (fun ta oa sa tb ob sb (a : Mo) w ha hb => Same20_any ta oa sa tb ob sb a a true (by simp) w ha hb)
    have hq := fun W => hdl_eql hs4 hg4 W
    have HTT := Lib.hid htt
    clear hz hng hv1 hr1 hM2 hM3 hr3 hM4 hr4 hh4 hh5 htt h
    go_enter Try.func3, Try.ntmps3
    go_upto_region 1 with (fail)
    refine wp_gen (fun Wv => Bx Wv (w.heap.size) (26) (#[tv, ov, sv]) ∧ Bx Wv (w.heap.size + 1) (28) (#[.int .i64 a0, .int .i64 b0]) ∧ Bx Wv (w.heap.size + 1 + 1) (28) (#[.int .i64 a1, .int .i64 b1]) ∧ Below w.heap.size w Wv) ⟨((((Bx.at_ (by simp)).alloc _).alloc _)), (((Bx.at_ (by simp)).alloc _)), ((Bx.at_ (by simp))), ((((Below.refl _ w).alloc (by simp <;> omega) _).alloc (by simp <;> omega) _).alloc (by simp <;> omega) _)⟩ ?_
    rintro wa1 ⟨g1, g2, g6, b⟩
    replace hm := hm.below b; replace B := B.trans (b.mono B.size); clear b
    have c_g1 := g1.cell; have f_g1 := g1.free; have a_g1 := fun o => (g1.alloc o).cell; have d_g1 := fun o o2 => ((g1.alloc o).alloc o2).cell; have e_g1 := fun o => (g1.alloc o).free
    have c_g2 := g2.cell; have f_g2 := g2.free; have a_g2 := fun o => (g2.alloc o).cell; have d_g2 := fun o o2 => ((g2.alloc o).alloc o2).cell; have e_g2 := fun o => (g2.alloc o).free
    have c_g6 := g6.cell; have f_g6 := g6.free; have a_g6 := fun o => (g6.alloc o).cell; have d_g6 := fun o o2 => ((g6.alloc o).alloc o2).cell; have e_g6 := fun o => (g6.alloc o).free
    go_wp2_with fail
    refine (GT.out _ hm).mono ?_
    rintro e wa2 ⟨rfl, b⟩
    replace hm := hm.below b; try clear c_g1 f_g1 a_g1 d_g1 e_g1
    replace g1 := g1.below b; have c_g1 := g1.cell; have f_g1 := g1.free; have a_g1 := fun o => (g1.alloc o).cell; have d_g1 := fun o o2 => ((g1.alloc o).alloc o2).cell; have e_g1 := fun o => (g1.alloc o).free; try clear c_g2 f_g2 a_g2 d_g2 e_g2
    replace g2 := g2.below b; have c_g2 := g2.cell; have f_g2 := g2.free; have a_g2 := fun o => (g2.alloc o).cell; have d_g2 := fun o o2 => ((g2.alloc o).alloc o2).cell; have e_g2 := fun o => (g2.alloc o).free; try clear c_g6 f_g6 a_g6 d_g6 e_g6
    replace g6 := g6.below b; have c_g6 := g6.cell; have f_g6 := g6.free; have a_g6 := fun o => (g6.alloc o).cell; have d_g6 := fun o o2 => ((g6.alloc o).alloc o2).cell; have e_g6 := fun o => (g6.alloc o).free; replace B := B.trans (b.mono B.size); clear b
    go_wp2_with fail
    refine (TT.out _ hm).mono ?_
    rintro e wa3 ⟨t', o', s', rfl, om, b⟩
    replace hm := hm.below b; try clear c_g1 f_g1 a_g1 d_g1 e_g1
    replace g1 := g1.below b; have c_g1 := g1.cell; have f_g1 := g1.free; have a_g1 := fun o => (g1.alloc o).cell; have d_g1 := fun o o2 => ((g1.alloc o).alloc o2).cell; have e_g1 := fun o => (g1.alloc o).free; try clear c_g2 f_g2 a_g2 d_g2 e_g2
    replace g2 := g2.below b; have c_g2 := g2.cell; have f_g2 := g2.free; have a_g2 := fun o => (g2.alloc o).cell; have d_g2 := fun o o2 => ((g2.alloc o).alloc o2).cell; have e_g2 := fun o => (g2.alloc o).free; try clear c_g6 f_g6 a_g6 d_g6 e_g6
    replace g6 := g6.below b; have c_g6 := g6.cell; have f_g6 := g6.free; have a_g6 := fun o => (g6.alloc o).cell; have d_g6 := fun o o2 => ((g6.alloc o).alloc o2).cell; have e_g6 := fun o => (g6.alloc o).free; replace B := B.trans (b.mono B.size); clear b
    have hn := om.rd
    obtain ⟨⟨tA, tn, tc, rfl⟩, ⟨oA, on, oc, rfl⟩, ⟨sA, sn, sc, rfl⟩⟩ := hn.forms
    clear om
    go_upto_region 4 with (fail)
    refine wp_gen (fun Wv => Bx Wv (wa3.heap.size) (26) (#[.slice tA tn tc, .slice oA on oc, .slice sA sn sc]) ∧ Below wa3.heap.size wa3 Wv) ⟨((Bx.at_ (by simp))), ((Below.refl _ wa3).alloc (by simp <;> omega) _)⟩ ?_
    rintro wa4 ⟨g3, b⟩
    try clear c_g1 f_g1 a_g1 d_g1 e_g1
    replace g1 := g1.below b; have c_g1 := g1.cell; have f_g1 := g1.free; have a_g1 := fun o => (g1.alloc o).cell; have d_g1 := fun o o2 => ((g1.alloc o).alloc o2).cell; have e_g1 := fun o => (g1.alloc o).free; try clear c_g2 f_g2 a_g2 d_g2 e_g2
    replace g2 := g2.below b; have c_g2 := g2.cell; have f_g2 := g2.free; have a_g2 := fun o => (g2.alloc o).cell; have d_g2 := fun o o2 => ((g2.alloc o).alloc o2).cell; have e_g2 := fun o => (g2.alloc o).free; try clear c_g6 f_g6 a_g6 d_g6 e_g6
    replace g6 := g6.below b; have c_g6 := g6.cell; have f_g6 := g6.free; have a_g6 := fun o => (g6.alloc o).cell; have d_g6 := fun o o2 => ((g6.alloc o).alloc o2).cell; have e_g6 := fun o => (g6.alloc o).free; replace hm := hm.below b; replace hn := hn.below b; replace B := B.trans (b.mono B.size); clear b
    have c_g3 := g3.cell; have f_g3 := g3.free; have a_g3 := fun o => (g3.alloc o).cell; have d_g3 := fun o o2 => ((g3.alloc o).alloc o2).cell; have e_g3 := fun o => (g3.alloc o).free
    obtain ⟨pv, hpv⟩ : ∃ pv, pv = (if nn = true then Value.pointer none else Value.pointer (some ⟨w.heap.size + 1 + 1, 0, none⟩)) := ⟨_, rfl⟩
    cases nn
    · have e1 := HTT.out
      dsimp only [cond] at e1
      subst e1
      clear hpv
      go_wp2_with fail
      refine (GA.out _ _ _ _ hm).mono ?_
      rintro e wa5 ⟨rfl, b⟩
      try clear c_g1 f_g1 a_g1 d_g1 e_g1
      replace g1 := g1.below b; have c_g1 := g1.cell; have f_g1 := g1.free; have a_g1 := fun o => (g1.alloc o).cell; have d_g1 := fun o o2 => ((g1.alloc o).alloc o2).cell; have e_g1 := fun o => (g1.alloc o).free; try clear c_g2 f_g2 a_g2 d_g2 e_g2
      replace g2 := g2.below b; have c_g2 := g2.cell; have f_g2 := g2.free; have a_g2 := fun o => (g2.alloc o).cell; have d_g2 := fun o o2 => ((g2.alloc o).alloc o2).cell; have e_g2 := fun o => (g2.alloc o).free; try clear c_g6 f_g6 a_g6 d_g6 e_g6
      replace g6 := g6.below b; have c_g6 := g6.cell; have f_g6 := g6.free; have a_g6 := fun o => (g6.alloc o).cell; have d_g6 := fun o o2 => ((g6.alloc o).alloc o2).cell; have e_g6 := fun o => (g6.alloc o).free; replace hm := hm.below b; replace hn := hn.below b; try clear c_g3 f_g3 a_g3 d_g3 e_g3
      replace g3 := g3.below b; have c_g3 := g3.cell; have f_g3 := g3.free; have a_g3 := fun o => (g3.alloc o).cell; have d_g3 := fun o o2 => ((g3.alloc o).alloc o2).cell; have e_g3 := fun o => (g3.alloc o).free; replace B := B.trans (b.mono B.size); clear b
      go_wp2_with fail
      refine (GB.out _ _ _ _ hn).mono ?_
      rintro e wa6 ⟨rfl, b⟩
      try clear c_g1 f_g1 a_g1 d_g1 e_g1
      replace g1 := g1.below b; have c_g1 := g1.cell; have f_g1 := g1.free; have a_g1 := fun o => (g1.alloc o).cell; have d_g1 := fun o o2 => ((g1.alloc o).alloc o2).cell; have e_g1 := fun o => (g1.alloc o).free; try clear c_g2 f_g2 a_g2 d_g2 e_g2
      replace g2 := g2.below b; have c_g2 := g2.cell; have f_g2 := g2.free; have a_g2 := fun o => (g2.alloc o).cell; have d_g2 := fun o o2 => ((g2.alloc o).alloc o2).cell; have e_g2 := fun o => (g2.alloc o).free; try clear c_g6 f_g6 a_g6 d_g6 e_g6
      replace g6 := g6.below b; have c_g6 := g6.cell; have f_g6 := g6.free; have a_g6 := fun o => (g6.alloc o).cell; have d_g6 := fun o o2 => ((g6.alloc o).alloc o2).cell; have e_g6 := fun o => (g6.alloc o).free; replace hm := hm.below b; replace hn := hn.below b; try clear c_g3 f_g3 a_g3 d_g3 e_g3
      replace g3 := g3.below b; have c_g3 := g3.cell; have f_g3 := g3.free; have a_g3 := fun o => (g3.alloc o).cell; have d_g3 := fun o o2 => ((g3.alloc o).alloc o2).cell; have e_g3 := fun o => (g3.alloc o).free; replace B := B.trans (b.mono B.size); clear b
      go_wp2_with fail
      refine (SA.out _ _ _ _ hm).mono ?_
      rintro e wa7 ⟨t1, o1, s1, rfl, k1, b⟩
      try clear c_g1 f_g1 a_g1 d_g1 e_g1
      replace g1 := g1.below b; have c_g1 := g1.cell; have f_g1 := g1.free; have a_g1 := fun o => (g1.alloc o).cell; have d_g1 := fun o o2 => ((g1.alloc o).alloc o2).cell; have e_g1 := fun o => (g1.alloc o).free; try clear c_g2 f_g2 a_g2 d_g2 e_g2
      replace g2 := g2.below b; have c_g2 := g2.cell; have f_g2 := g2.free; have a_g2 := fun o => (g2.alloc o).cell; have d_g2 := fun o o2 => ((g2.alloc o).alloc o2).cell; have e_g2 := fun o => (g2.alloc o).free; try clear c_g6 f_g6 a_g6 d_g6 e_g6
      replace g6 := g6.below b; have c_g6 := g6.cell; have f_g6 := g6.free; have a_g6 := fun o => (g6.alloc o).cell; have d_g6 := fun o o2 => ((g6.alloc o).alloc o2).cell; have e_g6 := fun o => (g6.alloc o).free; replace hm := hm.below b; replace hn := hn.below b; try clear c_g3 f_g3 a_g3 d_g3 e_g3
      replace g3 := g3.below b; have c_g3 := g3.cell; have f_g3 := g3.free; have a_g3 := fun o => (g3.alloc o).cell; have d_g3 := fun o o2 => ((g3.alloc o).alloc o2).cell; have e_g3 := fun o => (g3.alloc o).free; replace B := B.trans (b.mono B.size); clear b
      obtain ⟨⟨t1A, t1n, t1c, rfl⟩, ⟨o1A, o1n, o1c, rfl⟩, ⟨s1A, s1n, s1c, rfl⟩⟩ := k1.forms
      go_upto_region 10 with (fail)
      refine wp_gen (fun Wv => Bx Wv (wa7.heap.size) (26) (#[.slice t1A t1n t1c, .slice o1A o1n o1c, .slice s1A s1n s1c]) ∧ Below wa7.heap.size wa7 Wv) ⟨((Bx.at_ (by simp))), ((Below.refl _ wa7).alloc (by simp <;> omega) _)⟩ ?_
      rintro wa8 ⟨g10, b⟩
      try clear c_g1 f_g1 a_g1 d_g1 e_g1
      replace g1 := g1.below b; have c_g1 := g1.cell; have f_g1 := g1.free; have a_g1 := fun o => (g1.alloc o).cell; have d_g1 := fun o o2 => ((g1.alloc o).alloc o2).cell; have e_g1 := fun o => (g1.alloc o).free; try clear c_g2 f_g2 a_g2 d_g2 e_g2
      replace g2 := g2.below b; have c_g2 := g2.cell; have f_g2 := g2.free; have a_g2 := fun o => (g2.alloc o).cell; have d_g2 := fun o o2 => ((g2.alloc o).alloc o2).cell; have e_g2 := fun o => (g2.alloc o).free; try clear c_g6 f_g6 a_g6 d_g6 e_g6
      replace g6 := g6.below b; have c_g6 := g6.cell; have f_g6 := g6.free; have a_g6 := fun o => (g6.alloc o).cell; have d_g6 := fun o o2 => ((g6.alloc o).alloc o2).cell; have e_g6 := fun o => (g6.alloc o).free; replace hm := hm.below b; replace hn := hn.below b; try clear c_g3 f_g3 a_g3 d_g3 e_g3
      replace g3 := g3.below b; have c_g3 := g3.cell; have f_g3 := g3.free; have a_g3 := fun o => (g3.alloc o).cell; have d_g3 := fun o o2 => ((g3.alloc o).alloc o2).cell; have e_g3 := fun o => (g3.alloc o).free; replace k1 := k1.below b; replace B := B.trans (b.mono B.size); clear b
      have c_g10 := g10.cell; have f_g10 := g10.free; have a_g10 := fun o => (g10.alloc o).cell; have d_g10 := fun o o2 => ((g10.alloc o).alloc o2).cell; have e_g10 := fun o => (g10.alloc o).free
      go_wp2_with fail
      refine (SB.out _ _ _ _ hn).mono ?_
      rintro e wa9 ⟨t2, o2, s2, rfl, k2, b⟩
      try clear c_g1 f_g1 a_g1 d_g1 e_g1
      replace g1 := g1.below b; have c_g1 := g1.cell; have f_g1 := g1.free; have a_g1 := fun o => (g1.alloc o).cell; have d_g1 := fun o o2 => ((g1.alloc o).alloc o2).cell; have e_g1 := fun o => (g1.alloc o).free; try clear c_g2 f_g2 a_g2 d_g2 e_g2
      replace g2 := g2.below b; have c_g2 := g2.cell; have f_g2 := g2.free; have a_g2 := fun o => (g2.alloc o).cell; have d_g2 := fun o o2 => ((g2.alloc o).alloc o2).cell; have e_g2 := fun o => (g2.alloc o).free; try clear c_g6 f_g6 a_g6 d_g6 e_g6
      replace g6 := g6.below b; have c_g6 := g6.cell; have f_g6 := g6.free; have a_g6 := fun o => (g6.alloc o).cell; have d_g6 := fun o o2 => ((g6.alloc o).alloc o2).cell; have e_g6 := fun o => (g6.alloc o).free; replace hm := hm.below b; replace hn := hn.below b; try clear c_g3 f_g3 a_g3 d_g3 e_g3
      replace g3 := g3.below b; have c_g3 := g3.cell; have f_g3 := g3.free; have a_g3 := fun o => (g3.alloc o).cell; have d_g3 := fun o o2 => ((g3.alloc o).alloc o2).cell; have e_g3 := fun o => (g3.alloc o).free; replace k1 := k1.below b; try clear c_g10 f_g10 a_g10 d_g10 e_g10
      replace g10 := g10.below b; have c_g10 := g10.cell; have f_g10 := g10.free; have a_g10 := fun o => (g10.alloc o).cell; have d_g10 := fun o o2 => ((g10.alloc o).alloc o2).cell; have e_g10 := fun o => (g10.alloc o).free; replace B := B.trans (b.mono B.size); clear b
      obtain ⟨⟨t2A, t2n, t2c, rfl⟩, ⟨o2A, o2n, o2c, rfl⟩, ⟨s2A, s2n, s2c, rfl⟩⟩ := k2.forms
      go_upto_region 11 with (fail)
      refine wp_gen (fun Wv => Bx Wv (wa9.heap.size) (26) (#[.slice t2A t2n t2c, .slice o2A o2n o2c, .slice s2A s2n s2c]) ∧ Below wa9.heap.size wa9 Wv) ⟨((Bx.at_ (by simp))), ((Below.refl _ wa9).alloc (by simp <;> omega) _)⟩ ?_
      rintro wa10 ⟨g11, b⟩
      try clear c_g1 f_g1 a_g1 d_g1 e_g1
      replace g1 := g1.below b; have c_g1 := g1.cell; have f_g1 := g1.free; have a_g1 := fun o => (g1.alloc o).cell; have d_g1 := fun o o2 => ((g1.alloc o).alloc o2).cell; have e_g1 := fun o => (g1.alloc o).free; try clear c_g2 f_g2 a_g2 d_g2 e_g2
      replace g2 := g2.below b; have c_g2 := g2.cell; have f_g2 := g2.free; have a_g2 := fun o => (g2.alloc o).cell; have d_g2 := fun o o2 => ((g2.alloc o).alloc o2).cell; have e_g2 := fun o => (g2.alloc o).free; try clear c_g6 f_g6 a_g6 d_g6 e_g6
      replace g6 := g6.below b; have c_g6 := g6.cell; have f_g6 := g6.free; have a_g6 := fun o => (g6.alloc o).cell; have d_g6 := fun o o2 => ((g6.alloc o).alloc o2).cell; have e_g6 := fun o => (g6.alloc o).free; replace hm := hm.below b; replace hn := hn.below b; try clear c_g3 f_g3 a_g3 d_g3 e_g3
      replace g3 := g3.below b; have c_g3 := g3.cell; have f_g3 := g3.free; have a_g3 := fun o => (g3.alloc o).cell; have d_g3 := fun o o2 => ((g3.alloc o).alloc o2).cell; have e_g3 := fun o => (g3.alloc o).free; replace k1 := k1.below b; try clear c_g10 f_g10 a_g10 d_g10 e_g10
      replace g10 := g10.below b; have c_g10 := g10.cell; have f_g10 := g10.free; have a_g10 := fun o => (g10.alloc o).cell; have d_g10 := fun o o2 => ((g10.alloc o).alloc o2).cell; have e_g10 := fun o => (g10.alloc o).free; replace k2 := k2.below b; replace B := B.trans (b.mono B.size); clear b
      have c_g11 := g11.cell; have f_g11 := g11.free; have a_g11 := fun o => (g11.alloc o).cell; have d_g11 := fun o o2 => ((g11.alloc o).alloc o2).cell; have e_g11 := fun o => (g11.alloc o).free
      go_wp2_with fail
      refine (RA.out _ _ _ _ _ hm ⟨_, rfl, g6⟩).mono ?_
      rintro e wa11 ⟨t3, o3, s3, rfl, k3, b⟩
      try clear c_g1 f_g1 a_g1 d_g1 e_g1
      replace g1 := g1.below b; have c_g1 := g1.cell; have f_g1 := g1.free; have a_g1 := fun o => (g1.alloc o).cell; have d_g1 := fun o o2 => ((g1.alloc o).alloc o2).cell; have e_g1 := fun o => (g1.alloc o).free; try clear c_g2 f_g2 a_g2 d_g2 e_g2
      replace g2 := g2.below b; have c_g2 := g2.cell; have f_g2 := g2.free; have a_g2 := fun o => (g2.alloc o).cell; have d_g2 := fun o o2 => ((g2.alloc o).alloc o2).cell; have e_g2 := fun o => (g2.alloc o).free; try clear c_g6 f_g6 a_g6 d_g6 e_g6
      replace g6 := g6.below b; have c_g6 := g6.cell; have f_g6 := g6.free; have a_g6 := fun o => (g6.alloc o).cell; have d_g6 := fun o o2 => ((g6.alloc o).alloc o2).cell; have e_g6 := fun o => (g6.alloc o).free; replace hm := hm.below b; replace hn := hn.below b; try clear c_g3 f_g3 a_g3 d_g3 e_g3
      replace g3 := g3.below b; have c_g3 := g3.cell; have f_g3 := g3.free; have a_g3 := fun o => (g3.alloc o).cell; have d_g3 := fun o o2 => ((g3.alloc o).alloc o2).cell; have e_g3 := fun o => (g3.alloc o).free; replace k1 := k1.below b; try clear c_g10 f_g10 a_g10 d_g10 e_g10
      replace g10 := g10.below b; have c_g10 := g10.cell; have f_g10 := g10.free; have a_g10 := fun o => (g10.alloc o).cell; have d_g10 := fun o o2 => ((g10.alloc o).alloc o2).cell; have e_g10 := fun o => (g10.alloc o).free; replace k2 := k2.below b; try clear c_g11 f_g11 a_g11 d_g11 e_g11
      replace g11 := g11.below b; have c_g11 := g11.cell; have f_g11 := g11.free; have a_g11 := fun o => (g11.alloc o).cell; have d_g11 := fun o o2 => ((g11.alloc o).alloc o2).cell; have e_g11 := fun o => (g11.alloc o).free; replace B := B.trans (b.mono B.size); clear b
      obtain ⟨⟨t3A, t3n, t3c, rfl⟩, ⟨o3A, o3n, o3c, rfl⟩, ⟨s3A, s3n, s3c, rfl⟩⟩ := k3.forms
      go_upto_region 12 with (fail)
      refine wp_gen (fun Wv => Bx Wv (wa11.heap.size) (26) (#[.slice t3A t3n t3c, .slice o3A o3n o3c, .slice s3A s3n s3c]) ∧ Below wa11.heap.size wa11 Wv) ⟨((Bx.at_ (by simp))), ((Below.refl _ wa11).alloc (by simp <;> omega) _)⟩ ?_
      rintro wa12 ⟨g12, b⟩
      try clear c_g1 f_g1 a_g1 d_g1 e_g1
      replace g1 := g1.below b; have c_g1 := g1.cell; have f_g1 := g1.free; have a_g1 := fun o => (g1.alloc o).cell; have d_g1 := fun o o2 => ((g1.alloc o).alloc o2).cell; have e_g1 := fun o => (g1.alloc o).free; try clear c_g2 f_g2 a_g2 d_g2 e_g2
      replace g2 := g2.below b; have c_g2 := g2.cell; have f_g2 := g2.free; have a_g2 := fun o => (g2.alloc o).cell; have d_g2 := fun o o2 => ((g2.alloc o).alloc o2).cell; have e_g2 := fun o => (g2.alloc o).free; try clear c_g6 f_g6 a_g6 d_g6 e_g6
      replace g6 := g6.below b; have c_g6 := g6.cell; have f_g6 := g6.free; have a_g6 := fun o => (g6.alloc o).cell; have d_g6 := fun o o2 => ((g6.alloc o).alloc o2).cell; have e_g6 := fun o => (g6.alloc o).free; replace hm := hm.below b; replace hn := hn.below b; try clear c_g3 f_g3 a_g3 d_g3 e_g3
      replace g3 := g3.below b; have c_g3 := g3.cell; have f_g3 := g3.free; have a_g3 := fun o => (g3.alloc o).cell; have d_g3 := fun o o2 => ((g3.alloc o).alloc o2).cell; have e_g3 := fun o => (g3.alloc o).free; replace k1 := k1.below b; try clear c_g10 f_g10 a_g10 d_g10 e_g10
      replace g10 := g10.below b; have c_g10 := g10.cell; have f_g10 := g10.free; have a_g10 := fun o => (g10.alloc o).cell; have d_g10 := fun o o2 => ((g10.alloc o).alloc o2).cell; have e_g10 := fun o => (g10.alloc o).free; replace k2 := k2.below b; try clear c_g11 f_g11 a_g11 d_g11 e_g11
      replace g11 := g11.below b; have c_g11 := g11.cell; have f_g11 := g11.free; have a_g11 := fun o => (g11.alloc o).cell; have d_g11 := fun o o2 => ((g11.alloc o).alloc o2).cell; have e_g11 := fun o => (g11.alloc o).free; replace k3 := k3.below b; replace B := B.trans (b.mono B.size); clear b
      have c_g12 := g12.cell; have f_g12 := g12.free; have a_g12 := fun o => (g12.alloc o).cell; have d_g12 := fun o o2 => ((g12.alloc o).alloc o2).cell; have e_g12 := fun o => (g12.alloc o).free
      go_wp2_with fail
      refine (RB.out _ _ _ _ _ hn ⟨_, rfl, g6⟩).mono ?_
      rintro e wa13 ⟨t4, o4, s4, rfl, k4, b⟩
      try clear c_g1 f_g1 a_g1 d_g1 e_g1
      replace g1 := g1.below b; have c_g1 := g1.cell; have f_g1 := g1.free; have a_g1 := fun o => (g1.alloc o).cell; have d_g1 := fun o o2 => ((g1.alloc o).alloc o2).cell; have e_g1 := fun o => (g1.alloc o).free; try clear c_g2 f_g2 a_g2 d_g2 e_g2
      replace g2 := g2.below b; have c_g2 := g2.cell; have f_g2 := g2.free; have a_g2 := fun o => (g2.alloc o).cell; have d_g2 := fun o o2 => ((g2.alloc o).alloc o2).cell; have e_g2 := fun o => (g2.alloc o).free; try clear c_g6 f_g6 a_g6 d_g6 e_g6
      replace g6 := g6.below b; have c_g6 := g6.cell; have f_g6 := g6.free; have a_g6 := fun o => (g6.alloc o).cell; have d_g6 := fun o o2 => ((g6.alloc o).alloc o2).cell; have e_g6 := fun o => (g6.alloc o).free; replace hm := hm.below b; replace hn := hn.below b; try clear c_g3 f_g3 a_g3 d_g3 e_g3
      replace g3 := g3.below b; have c_g3 := g3.cell; have f_g3 := g3.free; have a_g3 := fun o => (g3.alloc o).cell; have d_g3 := fun o o2 => ((g3.alloc o).alloc o2).cell; have e_g3 := fun o => (g3.alloc o).free; replace k1 := k1.below b; try clear c_g10 f_g10 a_g10 d_g10 e_g10
      replace g10 := g10.below b; have c_g10 := g10.cell; have f_g10 := g10.free; have a_g10 := fun o => (g10.alloc o).cell; have d_g10 := fun o o2 => ((g10.alloc o).alloc o2).cell; have e_g10 := fun o => (g10.alloc o).free; replace k2 := k2.below b; try clear c_g11 f_g11 a_g11 d_g11 e_g11
      replace g11 := g11.below b; have c_g11 := g11.cell; have f_g11 := g11.free; have a_g11 := fun o => (g11.alloc o).cell; have d_g11 := fun o o2 => ((g11.alloc o).alloc o2).cell; have e_g11 := fun o => (g11.alloc o).free; replace k3 := k3.below b; try clear c_g12 f_g12 a_g12 d_g12 e_g12
      replace g12 := g12.below b; have c_g12 := g12.cell; have f_g12 := g12.free; have a_g12 := fun o => (g12.alloc o).cell; have d_g12 := fun o o2 => ((g12.alloc o).alloc o2).cell; have e_g12 := fun o => (g12.alloc o).free; replace B := B.trans (b.mono B.size); clear b
      obtain ⟨⟨t4A, t4n, t4c, rfl⟩, ⟨o4A, o4n, o4c, rfl⟩, ⟨s4A, s4n, s4c, rfl⟩⟩ := k4.forms
      go_upto_region 13 with (fail)
      refine wp_gen (fun Wv => Bx Wv (wa13.heap.size) (26) (#[.slice t4A t4n t4c, .slice o4A o4n o4c, .slice s4A s4n s4c]) ∧ Below wa13.heap.size wa13 Wv) ⟨((Bx.at_ (by simp))), ((Below.refl _ wa13).alloc (by simp <;> omega) _)⟩ ?_
      rintro wa14 ⟨g13, b⟩
      try clear c_g1 f_g1 a_g1 d_g1 e_g1
      replace g1 := g1.below b; have c_g1 := g1.cell; have f_g1 := g1.free; have a_g1 := fun o => (g1.alloc o).cell; have d_g1 := fun o o2 => ((g1.alloc o).alloc o2).cell; have e_g1 := fun o => (g1.alloc o).free; try clear c_g2 f_g2 a_g2 d_g2 e_g2
      replace g2 := g2.below b; have c_g2 := g2.cell; have f_g2 := g2.free; have a_g2 := fun o => (g2.alloc o).cell; have d_g2 := fun o o2 => ((g2.alloc o).alloc o2).cell; have e_g2 := fun o => (g2.alloc o).free; try clear c_g6 f_g6 a_g6 d_g6 e_g6
      replace g6 := g6.below b; have c_g6 := g6.cell; have f_g6 := g6.free; have a_g6 := fun o => (g6.alloc o).cell; have d_g6 := fun o o2 => ((g6.alloc o).alloc o2).cell; have e_g6 := fun o => (g6.alloc o).free; replace hm := hm.below b; replace hn := hn.below b; try clear c_g3 f_g3 a_g3 d_g3 e_g3
      replace g3 := g3.below b; have c_g3 := g3.cell; have f_g3 := g3.free; have a_g3 := fun o => (g3.alloc o).cell; have d_g3 := fun o o2 => ((g3.alloc o).alloc o2).cell; have e_g3 := fun o => (g3.alloc o).free; replace k1 := k1.below b; try clear c_g10 f_g10 a_g10 d_g10 e_g10
      replace g10 := g10.below b; have c_g10 := g10.cell; have f_g10 := g10.free; have a_g10 := fun o => (g10.alloc o).cell; have d_g10 := fun o o2 => ((g10.alloc o).alloc o2).cell; have e_g10 := fun o => (g10.alloc o).free; replace k2 := k2.below b; try clear c_g11 f_g11 a_g11 d_g11 e_g11
      replace g11 := g11.below b; have c_g11 := g11.cell; have f_g11 := g11.free; have a_g11 := fun o => (g11.alloc o).cell; have d_g11 := fun o o2 => ((g11.alloc o).alloc o2).cell; have e_g11 := fun o => (g11.alloc o).free; replace k3 := k3.below b; try clear c_g12 f_g12 a_g12 d_g12 e_g12
      replace g12 := g12.below b; have c_g12 := g12.cell; have f_g12 := g12.free; have a_g12 := fun o => (g12.alloc o).cell; have d_g12 := fun o o2 => ((g12.alloc o).alloc o2).cell; have e_g12 := fun o => (g12.alloc o).free; replace k4 := k4.below b; replace B := B.trans (b.mono B.size); clear b
      have c_g13 := g13.cell; have f_g13 := g13.free; have a_g13 := fun o => (g13.alloc o).cell; have d_g13 := fun o o2 => ((g13.alloc o).alloc o2).cell; have e_g13 := fun o => (g13.alloc o).free
      go_wp2_with fail
      refine (QA.out _ _ _ _ hm).mono ?_
      rintro e wa15 ⟨t5, o5, s5, rfl, k5, b⟩
      try clear c_g1 f_g1 a_g1 d_g1 e_g1
      replace g1 := g1.below b; have c_g1 := g1.cell; have f_g1 := g1.free; have a_g1 := fun o => (g1.alloc o).cell; have d_g1 := fun o o2 => ((g1.alloc o).alloc o2).cell; have e_g1 := fun o => (g1.alloc o).free; try clear c_g2 f_g2 a_g2 d_g2 e_g2
      replace g2 := g2.below b; have c_g2 := g2.cell; have f_g2 := g2.free; have a_g2 := fun o => (g2.alloc o).cell; have d_g2 := fun o o2 => ((g2.alloc o).alloc o2).cell; have e_g2 := fun o => (g2.alloc o).free; try clear c_g6 f_g6 a_g6 d_g6 e_g6
      replace g6 := g6.below b; have c_g6 := g6.cell; have f_g6 := g6.free; have a_g6 := fun o => (g6.alloc o).cell; have d_g6 := fun o o2 => ((g6.alloc o).alloc o2).cell; have e_g6 := fun o => (g6.alloc o).free; replace hm := hm.below b; replace hn := hn.below b; try clear c_g3 f_g3 a_g3 d_g3 e_g3
      replace g3 := g3.below b; have c_g3 := g3.cell; have f_g3 := g3.free; have a_g3 := fun o => (g3.alloc o).cell; have d_g3 := fun o o2 => ((g3.alloc o).alloc o2).cell; have e_g3 := fun o => (g3.alloc o).free; replace k1 := k1.below b; try clear c_g10 f_g10 a_g10 d_g10 e_g10
      replace g10 := g10.below b; have c_g10 := g10.cell; have f_g10 := g10.free; have a_g10 := fun o => (g10.alloc o).cell; have d_g10 := fun o o2 => ((g10.alloc o).alloc o2).cell; have e_g10 := fun o => (g10.alloc o).free; replace k2 := k2.below b; try clear c_g11 f_g11 a_g11 d_g11 e_g11
      replace g11 := g11.below b; have c_g11 := g11.cell; have f_g11 := g11.free; have a_g11 := fun o => (g11.alloc o).cell; have d_g11 := fun o o2 => ((g11.alloc o).alloc o2).cell; have e_g11 := fun o => (g11.alloc o).free; replace k3 := k3.below b; try clear c_g12 f_g12 a_g12 d_g12 e_g12
      replace g12 := g12.below b; have c_g12 := g12.cell; have f_g12 := g12.free; have a_g12 := fun o => (g12.alloc o).cell; have d_g12 := fun o o2 => ((g12.alloc o).alloc o2).cell; have e_g12 := fun o => (g12.alloc o).free; replace k4 := k4.below b; try clear c_g13 f_g13 a_g13 d_g13 e_g13
      replace g13 := g13.below b; have c_g13 := g13.cell; have f_g13 := g13.free; have a_g13 := fun o => (g13.alloc o).cell; have d_g13 := fun o o2 => ((g13.alloc o).alloc o2).cell; have e_g13 := fun o => (g13.alloc o).free; replace B := B.trans (b.mono B.size); clear b
      obtain ⟨⟨t5A, t5n, t5c, rfl⟩, ⟨o5A, o5n, o5c, rfl⟩, ⟨s5A, s5n, s5c, rfl⟩⟩ := k5.forms
      go_upto_region 14 with (fail)
      refine wp_gen (fun Wv => Bx Wv (wa15.heap.size) (26) (#[.slice t5A t5n t5c, .slice o5A o5n o5c, .slice s5A s5n s5c]) ∧ Bx Wv (wa15.heap.size + 1) (28) (#[.int .i64 hs4, .int .i64 hg4]) ∧ Below wa15.heap.size wa15 Wv) ⟨(((Bx.at_ (by simp)).alloc _)), ((Bx.at_ (by simp))), (((Below.refl _ wa15).alloc (by simp <;> omega) _).alloc (by simp <;> omega) _)⟩ ?_
      rintro wa16 ⟨g14, g15, b⟩
      try clear c_g1 f_g1 a_g1 d_g1 e_g1
      replace g1 := g1.below b; have c_g1 := g1.cell; have f_g1 := g1.free; have a_g1 := fun o => (g1.alloc o).cell; have d_g1 := fun o o2 => ((g1.alloc o).alloc o2).cell; have e_g1 := fun o => (g1.alloc o).free; try clear c_g2 f_g2 a_g2 d_g2 e_g2
      replace g2 := g2.below b; have c_g2 := g2.cell; have f_g2 := g2.free; have a_g2 := fun o => (g2.alloc o).cell; have d_g2 := fun o o2 => ((g2.alloc o).alloc o2).cell; have e_g2 := fun o => (g2.alloc o).free; try clear c_g6 f_g6 a_g6 d_g6 e_g6
      replace g6 := g6.below b; have c_g6 := g6.cell; have f_g6 := g6.free; have a_g6 := fun o => (g6.alloc o).cell; have d_g6 := fun o o2 => ((g6.alloc o).alloc o2).cell; have e_g6 := fun o => (g6.alloc o).free; replace hm := hm.below b; replace hn := hn.below b; try clear c_g3 f_g3 a_g3 d_g3 e_g3
      replace g3 := g3.below b; have c_g3 := g3.cell; have f_g3 := g3.free; have a_g3 := fun o => (g3.alloc o).cell; have d_g3 := fun o o2 => ((g3.alloc o).alloc o2).cell; have e_g3 := fun o => (g3.alloc o).free; replace k1 := k1.below b; try clear c_g10 f_g10 a_g10 d_g10 e_g10
      replace g10 := g10.below b; have c_g10 := g10.cell; have f_g10 := g10.free; have a_g10 := fun o => (g10.alloc o).cell; have d_g10 := fun o o2 => ((g10.alloc o).alloc o2).cell; have e_g10 := fun o => (g10.alloc o).free; replace k2 := k2.below b; try clear c_g11 f_g11 a_g11 d_g11 e_g11
      replace g11 := g11.below b; have c_g11 := g11.cell; have f_g11 := g11.free; have a_g11 := fun o => (g11.alloc o).cell; have d_g11 := fun o o2 => ((g11.alloc o).alloc o2).cell; have e_g11 := fun o => (g11.alloc o).free; replace k3 := k3.below b; try clear c_g12 f_g12 a_g12 d_g12 e_g12
      replace g12 := g12.below b; have c_g12 := g12.cell; have f_g12 := g12.free; have a_g12 := fun o => (g12.alloc o).cell; have d_g12 := fun o o2 => ((g12.alloc o).alloc o2).cell; have e_g12 := fun o => (g12.alloc o).free; replace k4 := k4.below b; try clear c_g13 f_g13 a_g13 d_g13 e_g13
      replace g13 := g13.below b; have c_g13 := g13.cell; have f_g13 := g13.free; have a_g13 := fun o => (g13.alloc o).cell; have d_g13 := fun o o2 => ((g13.alloc o).alloc o2).cell; have e_g13 := fun o => (g13.alloc o).free; replace k5 := k5.below b; replace B := B.trans (b.mono B.size); clear b
      have c_g14 := g14.cell; have f_g14 := g14.free; have a_g14 := fun o => (g14.alloc o).cell; have d_g14 := fun o o2 => ((g14.alloc o).alloc o2).cell; have e_g14 := fun o => (g14.alloc o).free
      have c_g15 := g15.cell; have f_g15 := g15.free; have a_g15 := fun o => (g15.alloc o).cell; have d_g15 := fun o o2 => ((g15.alloc o).alloc o2).cell; have e_g15 := fun o => (g15.alloc o).free
      go_wp2_with fail
      refine (QB.out _ _ _ _ hn).mono ?_
      rintro e wa17 ⟨t6, o6, s6, rfl, k6, b⟩
      try clear c_g1 f_g1 a_g1 d_g1 e_g1
      replace g1 := g1.below b; have c_g1 := g1.cell; have f_g1 := g1.free; have a_g1 := fun o => (g1.alloc o).cell; have d_g1 := fun o o2 => ((g1.alloc o).alloc o2).cell; have e_g1 := fun o => (g1.alloc o).free; try clear c_g2 f_g2 a_g2 d_g2 e_g2
      replace g2 := g2.below b; have c_g2 := g2.cell; have f_g2 := g2.free; have a_g2 := fun o => (g2.alloc o).cell; have d_g2 := fun o o2 => ((g2.alloc o).alloc o2).cell; have e_g2 := fun o => (g2.alloc o).free; try clear c_g6 f_g6 a_g6 d_g6 e_g6
      replace g6 := g6.below b; have c_g6 := g6.cell; have f_g6 := g6.free; have a_g6 := fun o => (g6.alloc o).cell; have d_g6 := fun o o2 => ((g6.alloc o).alloc o2).cell; have e_g6 := fun o => (g6.alloc o).free; replace hm := hm.below b; replace hn := hn.below b; try clear c_g3 f_g3 a_g3 d_g3 e_g3
      replace g3 := g3.below b; have c_g3 := g3.cell; have f_g3 := g3.free; have a_g3 := fun o => (g3.alloc o).cell; have d_g3 := fun o o2 => ((g3.alloc o).alloc o2).cell; have e_g3 := fun o => (g3.alloc o).free; replace k1 := k1.below b; try clear c_g10 f_g10 a_g10 d_g10 e_g10
      replace g10 := g10.below b; have c_g10 := g10.cell; have f_g10 := g10.free; have a_g10 := fun o => (g10.alloc o).cell; have d_g10 := fun o o2 => ((g10.alloc o).alloc o2).cell; have e_g10 := fun o => (g10.alloc o).free; replace k2 := k2.below b; try clear c_g11 f_g11 a_g11 d_g11 e_g11
      replace g11 := g11.below b; have c_g11 := g11.cell; have f_g11 := g11.free; have a_g11 := fun o => (g11.alloc o).cell; have d_g11 := fun o o2 => ((g11.alloc o).alloc o2).cell; have e_g11 := fun o => (g11.alloc o).free; replace k3 := k3.below b; try clear c_g12 f_g12 a_g12 d_g12 e_g12
      replace g12 := g12.below b; have c_g12 := g12.cell; have f_g12 := g12.free; have a_g12 := fun o => (g12.alloc o).cell; have d_g12 := fun o o2 => ((g12.alloc o).alloc o2).cell; have e_g12 := fun o => (g12.alloc o).free; replace k4 := k4.below b; try clear c_g13 f_g13 a_g13 d_g13 e_g13
      replace g13 := g13.below b; have c_g13 := g13.cell; have f_g13 := g13.free; have a_g13 := fun o => (g13.alloc o).cell; have d_g13 := fun o o2 => ((g13.alloc o).alloc o2).cell; have e_g13 := fun o => (g13.alloc o).free; replace k5 := k5.below b; try clear c_g14 f_g14 a_g14 d_g14 e_g14
      replace g14 := g14.below b; have c_g14 := g14.cell; have f_g14 := g14.free; have a_g14 := fun o => (g14.alloc o).cell; have d_g14 := fun o o2 => ((g14.alloc o).alloc o2).cell; have e_g14 := fun o => (g14.alloc o).free; try clear c_g15 f_g15 a_g15 d_g15 e_g15
      replace g15 := g15.below b; have c_g15 := g15.cell; have f_g15 := g15.free; have a_g15 := fun o => (g15.alloc o).cell; have d_g15 := fun o o2 => ((g15.alloc o).alloc o2).cell; have e_g15 := fun o => (g15.alloc o).free; replace B := B.trans (b.mono B.size); clear b
      obtain ⟨⟨t6A, t6n, t6c, rfl⟩, ⟨o6A, o6n, o6c, rfl⟩, ⟨s6A, s6n, s6c, rfl⟩⟩ := k6.forms
      go_upto_region 15 with (fail)
      refine wp_gen (fun Wv => Bx Wv (wa17.heap.size) (26) (#[.slice t6A t6n t6c, .slice o6A o6n o6c, .slice s6A s6n s6c]) ∧ Bx Wv (wa17.heap.size + 1) (28) (#[.int .i64 hs4, .int .i64 hg4]) ∧ Below wa17.heap.size wa17 Wv) ⟨(((Bx.at_ (by simp)).alloc _)), ((Bx.at_ (by simp))), (((Below.refl _ wa17).alloc (by simp <;> omega) _).alloc (by simp <;> omega) _)⟩ ?_
      rintro wa18 ⟨g16, g17, b⟩
      try clear c_g1 f_g1 a_g1 d_g1 e_g1
      replace g1 := g1.below b; have c_g1 := g1.cell; have f_g1 := g1.free; have a_g1 := fun o => (g1.alloc o).cell; have d_g1 := fun o o2 => ((g1.alloc o).alloc o2).cell; have e_g1 := fun o => (g1.alloc o).free; try clear c_g2 f_g2 a_g2 d_g2 e_g2
      replace g2 := g2.below b; have c_g2 := g2.cell; have f_g2 := g2.free; have a_g2 := fun o => (g2.alloc o).cell; have d_g2 := fun o o2 => ((g2.alloc o).alloc o2).cell; have e_g2 := fun o => (g2.alloc o).free; try clear c_g6 f_g6 a_g6 d_g6 e_g6
      replace g6 := g6.below b; have c_g6 := g6.cell; have f_g6 := g6.free; have a_g6 := fun o => (g6.alloc o).cell; have d_g6 := fun o o2 => ((g6.alloc o).alloc o2).cell; have e_g6 := fun o => (g6.alloc o).free; replace hm := hm.below b; replace hn := hn.below b; try clear c_g3 f_g3 a_g3 d_g3 e_g3
      replace g3 := g3.below b; have c_g3 := g3.cell; have f_g3 := g3.free; have a_g3 := fun o => (g3.alloc o).cell; have d_g3 := fun o o2 => ((g3.alloc o).alloc o2).cell; have e_g3 := fun o => (g3.alloc o).free; replace k1 := k1.below b; try clear c_g10 f_g10 a_g10 d_g10 e_g10
      replace g10 := g10.below b; have c_g10 := g10.cell; have f_g10 := g10.free; have a_g10 := fun o => (g10.alloc o).cell; have d_g10 := fun o o2 => ((g10.alloc o).alloc o2).cell; have e_g10 := fun o => (g10.alloc o).free; replace k2 := k2.below b; try clear c_g11 f_g11 a_g11 d_g11 e_g11
      replace g11 := g11.below b; have c_g11 := g11.cell; have f_g11 := g11.free; have a_g11 := fun o => (g11.alloc o).cell; have d_g11 := fun o o2 => ((g11.alloc o).alloc o2).cell; have e_g11 := fun o => (g11.alloc o).free; replace k3 := k3.below b; try clear c_g12 f_g12 a_g12 d_g12 e_g12
      replace g12 := g12.below b; have c_g12 := g12.cell; have f_g12 := g12.free; have a_g12 := fun o => (g12.alloc o).cell; have d_g12 := fun o o2 => ((g12.alloc o).alloc o2).cell; have e_g12 := fun o => (g12.alloc o).free; replace k4 := k4.below b; try clear c_g13 f_g13 a_g13 d_g13 e_g13
      replace g13 := g13.below b; have c_g13 := g13.cell; have f_g13 := g13.free; have a_g13 := fun o => (g13.alloc o).cell; have d_g13 := fun o o2 => ((g13.alloc o).alloc o2).cell; have e_g13 := fun o => (g13.alloc o).free; replace k5 := k5.below b; try clear c_g14 f_g14 a_g14 d_g14 e_g14
      replace g14 := g14.below b; have c_g14 := g14.cell; have f_g14 := g14.free; have a_g14 := fun o => (g14.alloc o).cell; have d_g14 := fun o o2 => ((g14.alloc o).alloc o2).cell; have e_g14 := fun o => (g14.alloc o).free; try clear c_g15 f_g15 a_g15 d_g15 e_g15
      replace g15 := g15.below b; have c_g15 := g15.cell; have f_g15 := g15.free; have a_g15 := fun o => (g15.alloc o).cell; have d_g15 := fun o o2 => ((g15.alloc o).alloc o2).cell; have e_g15 := fun o => (g15.alloc o).free; replace k6 := k6.below b; replace B := B.trans (b.mono B.size); clear b
      have c_g16 := g16.cell; have f_g16 := g16.free; have a_g16 := fun o => (g16.alloc o).cell; have d_g16 := fun o o2 => ((g16.alloc o).alloc o2).cell; have e_g16 := fun o => (g16.alloc o).free
      have c_g17 := g17.cell; have f_g17 := g17.free; have a_g17 := fun o => (g17.alloc o).cell; have d_g17 := fun o o2 => ((g17.alloc o).alloc o2).cell; have e_g17 := fun o => (g17.alloc o).free
      go_wp2_with fail
      refine (SM.out _ _ _ _ _ _ _ _ k1 k2).mono ?_
      rintro e wa19 ⟨rfl, b⟩
      try clear c_g1 f_g1 a_g1 d_g1 e_g1
      replace g1 := g1.below b; have c_g1 := g1.cell; have f_g1 := g1.free; have a_g1 := fun o => (g1.alloc o).cell; have d_g1 := fun o o2 => ((g1.alloc o).alloc o2).cell; have e_g1 := fun o => (g1.alloc o).free; try clear c_g2 f_g2 a_g2 d_g2 e_g2
      replace g2 := g2.below b; have c_g2 := g2.cell; have f_g2 := g2.free; have a_g2 := fun o => (g2.alloc o).cell; have d_g2 := fun o o2 => ((g2.alloc o).alloc o2).cell; have e_g2 := fun o => (g2.alloc o).free; try clear c_g6 f_g6 a_g6 d_g6 e_g6
      replace g6 := g6.below b; have c_g6 := g6.cell; have f_g6 := g6.free; have a_g6 := fun o => (g6.alloc o).cell; have d_g6 := fun o o2 => ((g6.alloc o).alloc o2).cell; have e_g6 := fun o => (g6.alloc o).free; replace hm := hm.below b; replace hn := hn.below b; try clear c_g3 f_g3 a_g3 d_g3 e_g3
      replace g3 := g3.below b; have c_g3 := g3.cell; have f_g3 := g3.free; have a_g3 := fun o => (g3.alloc o).cell; have d_g3 := fun o o2 => ((g3.alloc o).alloc o2).cell; have e_g3 := fun o => (g3.alloc o).free; replace k1 := k1.below b; try clear c_g10 f_g10 a_g10 d_g10 e_g10
      replace g10 := g10.below b; have c_g10 := g10.cell; have f_g10 := g10.free; have a_g10 := fun o => (g10.alloc o).cell; have d_g10 := fun o o2 => ((g10.alloc o).alloc o2).cell; have e_g10 := fun o => (g10.alloc o).free; replace k2 := k2.below b; try clear c_g11 f_g11 a_g11 d_g11 e_g11
      replace g11 := g11.below b; have c_g11 := g11.cell; have f_g11 := g11.free; have a_g11 := fun o => (g11.alloc o).cell; have d_g11 := fun o o2 => ((g11.alloc o).alloc o2).cell; have e_g11 := fun o => (g11.alloc o).free; replace k3 := k3.below b; try clear c_g12 f_g12 a_g12 d_g12 e_g12
      replace g12 := g12.below b; have c_g12 := g12.cell; have f_g12 := g12.free; have a_g12 := fun o => (g12.alloc o).cell; have d_g12 := fun o o2 => ((g12.alloc o).alloc o2).cell; have e_g12 := fun o => (g12.alloc o).free; replace k4 := k4.below b; try clear c_g13 f_g13 a_g13 d_g13 e_g13
      replace g13 := g13.below b; have c_g13 := g13.cell; have f_g13 := g13.free; have a_g13 := fun o => (g13.alloc o).cell; have d_g13 := fun o o2 => ((g13.alloc o).alloc o2).cell; have e_g13 := fun o => (g13.alloc o).free; replace k5 := k5.below b; try clear c_g14 f_g14 a_g14 d_g14 e_g14
      replace g14 := g14.below b; have c_g14 := g14.cell; have f_g14 := g14.free; have a_g14 := fun o => (g14.alloc o).cell; have d_g14 := fun o o2 => ((g14.alloc o).alloc o2).cell; have e_g14 := fun o => (g14.alloc o).free; try clear c_g15 f_g15 a_g15 d_g15 e_g15
      replace g15 := g15.below b; have c_g15 := g15.cell; have f_g15 := g15.free; have a_g15 := fun o => (g15.alloc o).cell; have d_g15 := fun o o2 => ((g15.alloc o).alloc o2).cell; have e_g15 := fun o => (g15.alloc o).free; replace k6 := k6.below b; try clear c_g16 f_g16 a_g16 d_g16 e_g16
      replace g16 := g16.below b; have c_g16 := g16.cell; have f_g16 := g16.free; have a_g16 := fun o => (g16.alloc o).cell; have d_g16 := fun o o2 => ((g16.alloc o).alloc o2).cell; have e_g16 := fun o => (g16.alloc o).free; try clear c_g17 f_g17 a_g17 d_g17 e_g17
      replace g17 := g17.below b; have c_g17 := g17.cell; have f_g17 := g17.free; have a_g17 := fun o => (g17.alloc o).cell; have d_g17 := fun o o2 => ((g17.alloc o).alloc o2).cell; have e_g17 := fun o => (g17.alloc o).free; replace B := B.trans (b.mono B.size); clear b
      go_wp2_with fail
      refine (SM.out _ _ _ _ _ _ _ _ k3 k4).mono ?_
      rintro e wa20 ⟨rfl, b⟩
      try clear c_g1 f_g1 a_g1 d_g1 e_g1
      replace g1 := g1.below b; have c_g1 := g1.cell; have f_g1 := g1.free; have a_g1 := fun o => (g1.alloc o).cell; have d_g1 := fun o o2 => ((g1.alloc o).alloc o2).cell; have e_g1 := fun o => (g1.alloc o).free; try clear c_g2 f_g2 a_g2 d_g2 e_g2
      replace g2 := g2.below b; have c_g2 := g2.cell; have f_g2 := g2.free; have a_g2 := fun o => (g2.alloc o).cell; have d_g2 := fun o o2 => ((g2.alloc o).alloc o2).cell; have e_g2 := fun o => (g2.alloc o).free; try clear c_g6 f_g6 a_g6 d_g6 e_g6
      replace g6 := g6.below b; have c_g6 := g6.cell; have f_g6 := g6.free; have a_g6 := fun o => (g6.alloc o).cell; have d_g6 := fun o o2 => ((g6.alloc o).alloc o2).cell; have e_g6 := fun o => (g6.alloc o).free; replace hm := hm.below b; replace hn := hn.below b; try clear c_g3 f_g3 a_g3 d_g3 e_g3
      replace g3 := g3.below b; have c_g3 := g3.cell; have f_g3 := g3.free; have a_g3 := fun o => (g3.alloc o).cell; have d_g3 := fun o o2 => ((g3.alloc o).alloc o2).cell; have e_g3 := fun o => (g3.alloc o).free; replace k1 := k1.below b; try clear c_g10 f_g10 a_g10 d_g10 e_g10
      replace g10 := g10.below b; have c_g10 := g10.cell; have f_g10 := g10.free; have a_g10 := fun o => (g10.alloc o).cell; have d_g10 := fun o o2 => ((g10.alloc o).alloc o2).cell; have e_g10 := fun o => (g10.alloc o).free; replace k2 := k2.below b; try clear c_g11 f_g11 a_g11 d_g11 e_g11
      replace g11 := g11.below b; have c_g11 := g11.cell; have f_g11 := g11.free; have a_g11 := fun o => (g11.alloc o).cell; have d_g11 := fun o o2 => ((g11.alloc o).alloc o2).cell; have e_g11 := fun o => (g11.alloc o).free; replace k3 := k3.below b; try clear c_g12 f_g12 a_g12 d_g12 e_g12
      replace g12 := g12.below b; have c_g12 := g12.cell; have f_g12 := g12.free; have a_g12 := fun o => (g12.alloc o).cell; have d_g12 := fun o o2 => ((g12.alloc o).alloc o2).cell; have e_g12 := fun o => (g12.alloc o).free; replace k4 := k4.below b; try clear c_g13 f_g13 a_g13 d_g13 e_g13
      replace g13 := g13.below b; have c_g13 := g13.cell; have f_g13 := g13.free; have a_g13 := fun o => (g13.alloc o).cell; have d_g13 := fun o o2 => ((g13.alloc o).alloc o2).cell; have e_g13 := fun o => (g13.alloc o).free; replace k5 := k5.below b; try clear c_g14 f_g14 a_g14 d_g14 e_g14
      replace g14 := g14.below b; have c_g14 := g14.cell; have f_g14 := g14.free; have a_g14 := fun o => (g14.alloc o).cell; have d_g14 := fun o o2 => ((g14.alloc o).alloc o2).cell; have e_g14 := fun o => (g14.alloc o).free; try clear c_g15 f_g15 a_g15 d_g15 e_g15
      replace g15 := g15.below b; have c_g15 := g15.cell; have f_g15 := g15.free; have a_g15 := fun o => (g15.alloc o).cell; have d_g15 := fun o o2 => ((g15.alloc o).alloc o2).cell; have e_g15 := fun o => (g15.alloc o).free; replace k6 := k6.below b; try clear c_g16 f_g16 a_g16 d_g16 e_g16
      replace g16 := g16.below b; have c_g16 := g16.cell; have f_g16 := g16.free; have a_g16 := fun o => (g16.alloc o).cell; have d_g16 := fun o o2 => ((g16.alloc o).alloc o2).cell; have e_g16 := fun o => (g16.alloc o).free; try clear c_g17 f_g17 a_g17 d_g17 e_g17
      replace g17 := g17.below b; have c_g17 := g17.cell; have f_g17 := g17.free; have a_g17 := fun o => (g17.alloc o).cell; have d_g17 := fun o o2 => ((g17.alloc o).alloc o2).cell; have e_g17 := fun o => (g17.alloc o).free; replace B := B.trans (b.mono B.size); clear b
      go_wp2_with fail
      refine (SM.out _ _ _ _ _ _ _ _ k5 k6).mono ?_
      rintro e wa21 ⟨rfl, b⟩
      try clear c_g1 f_g1 a_g1 d_g1 e_g1
      replace g1 := g1.below b; have c_g1 := g1.cell; have f_g1 := g1.free; have a_g1 := fun o => (g1.alloc o).cell; have d_g1 := fun o o2 => ((g1.alloc o).alloc o2).cell; have e_g1 := fun o => (g1.alloc o).free; try clear c_g2 f_g2 a_g2 d_g2 e_g2
      replace g2 := g2.below b; have c_g2 := g2.cell; have f_g2 := g2.free; have a_g2 := fun o => (g2.alloc o).cell; have d_g2 := fun o o2 => ((g2.alloc o).alloc o2).cell; have e_g2 := fun o => (g2.alloc o).free; try clear c_g6 f_g6 a_g6 d_g6 e_g6
      replace g6 := g6.below b; have c_g6 := g6.cell; have f_g6 := g6.free; have a_g6 := fun o => (g6.alloc o).cell; have d_g6 := fun o o2 => ((g6.alloc o).alloc o2).cell; have e_g6 := fun o => (g6.alloc o).free; replace hm := hm.below b; replace hn := hn.below b; try clear c_g3 f_g3 a_g3 d_g3 e_g3
      replace g3 := g3.below b; have c_g3 := g3.cell; have f_g3 := g3.free; have a_g3 := fun o => (g3.alloc o).cell; have d_g3 := fun o o2 => ((g3.alloc o).alloc o2).cell; have e_g3 := fun o => (g3.alloc o).free; replace k1 := k1.below b; try clear c_g10 f_g10 a_g10 d_g10 e_g10
      replace g10 := g10.below b; have c_g10 := g10.cell; have f_g10 := g10.free; have a_g10 := fun o => (g10.alloc o).cell; have d_g10 := fun o o2 => ((g10.alloc o).alloc o2).cell; have e_g10 := fun o => (g10.alloc o).free; replace k2 := k2.below b; try clear c_g11 f_g11 a_g11 d_g11 e_g11
      replace g11 := g11.below b; have c_g11 := g11.cell; have f_g11 := g11.free; have a_g11 := fun o => (g11.alloc o).cell; have d_g11 := fun o o2 => ((g11.alloc o).alloc o2).cell; have e_g11 := fun o => (g11.alloc o).free; replace k3 := k3.below b; try clear c_g12 f_g12 a_g12 d_g12 e_g12
      replace g12 := g12.below b; have c_g12 := g12.cell; have f_g12 := g12.free; have a_g12 := fun o => (g12.alloc o).cell; have d_g12 := fun o o2 => ((g12.alloc o).alloc o2).cell; have e_g12 := fun o => (g12.alloc o).free; replace k4 := k4.below b; try clear c_g13 f_g13 a_g13 d_g13 e_g13
      replace g13 := g13.below b; have c_g13 := g13.cell; have f_g13 := g13.free; have a_g13 := fun o => (g13.alloc o).cell; have d_g13 := fun o o2 => ((g13.alloc o).alloc o2).cell; have e_g13 := fun o => (g13.alloc o).free; replace k5 := k5.below b; try clear c_g14 f_g14 a_g14 d_g14 e_g14
      replace g14 := g14.below b; have c_g14 := g14.cell; have f_g14 := g14.free; have a_g14 := fun o => (g14.alloc o).cell; have d_g14 := fun o o2 => ((g14.alloc o).alloc o2).cell; have e_g14 := fun o => (g14.alloc o).free; try clear c_g15 f_g15 a_g15 d_g15 e_g15
      replace g15 := g15.below b; have c_g15 := g15.cell; have f_g15 := g15.free; have a_g15 := fun o => (g15.alloc o).cell; have d_g15 := fun o o2 => ((g15.alloc o).alloc o2).cell; have e_g15 := fun o => (g15.alloc o).free; replace k6 := k6.below b; try clear c_g16 f_g16 a_g16 d_g16 e_g16
      replace g16 := g16.below b; have c_g16 := g16.cell; have f_g16 := g16.free; have a_g16 := fun o => (g16.alloc o).cell; have d_g16 := fun o o2 => ((g16.alloc o).alloc o2).cell; have e_g16 := fun o => (g16.alloc o).free; try clear c_g17 f_g17 a_g17 d_g17 e_g17
      replace g17 := g17.below b; have c_g17 := g17.cell; have f_g17 := g17.free; have a_g17 := fun o => (g17.alloc o).cell; have d_g17 := fun o o2 => ((g17.alloc o).alloc o2).cell; have e_g17 := fun o => (g17.alloc o).free; replace B := B.trans (b.mono B.size); clear b
      go_wp2_with fail
      refine (SM.out _ _ _ _ _ _ _ _ hm hn).mono ?_
      rintro e wa22 ⟨rfl, b⟩
      try clear c_g1 f_g1 a_g1 d_g1 e_g1
      replace g1 := g1.below b; have c_g1 := g1.cell; have f_g1 := g1.free; have a_g1 := fun o => (g1.alloc o).cell; have d_g1 := fun o o2 => ((g1.alloc o).alloc o2).cell; have e_g1 := fun o => (g1.alloc o).free; try clear c_g2 f_g2 a_g2 d_g2 e_g2
      replace g2 := g2.below b; have c_g2 := g2.cell; have f_g2 := g2.free; have a_g2 := fun o => (g2.alloc o).cell; have d_g2 := fun o o2 => ((g2.alloc o).alloc o2).cell; have e_g2 := fun o => (g2.alloc o).free; try clear c_g6 f_g6 a_g6 d_g6 e_g6
      replace g6 := g6.below b; have c_g6 := g6.cell; have f_g6 := g6.free; have a_g6 := fun o => (g6.alloc o).cell; have d_g6 := fun o o2 => ((g6.alloc o).alloc o2).cell; have e_g6 := fun o => (g6.alloc o).free; replace hm := hm.below b; replace hn := hn.below b; try clear c_g3 f_g3 a_g3 d_g3 e_g3
      replace g3 := g3.below b; have c_g3 := g3.cell; have f_g3 := g3.free; have a_g3 := fun o => (g3.alloc o).cell; have d_g3 := fun o o2 => ((g3.alloc o).alloc o2).cell; have e_g3 := fun o => (g3.alloc o).free; replace k1 := k1.below b; try clear c_g10 f_g10 a_g10 d_g10 e_g10
      replace g10 := g10.below b; have c_g10 := g10.cell; have f_g10 := g10.free; have a_g10 := fun o => (g10.alloc o).cell; have d_g10 := fun o o2 => ((g10.alloc o).alloc o2).cell; have e_g10 := fun o => (g10.alloc o).free; replace k2 := k2.below b; try clear c_g11 f_g11 a_g11 d_g11 e_g11
      replace g11 := g11.below b; have c_g11 := g11.cell; have f_g11 := g11.free; have a_g11 := fun o => (g11.alloc o).cell; have d_g11 := fun o o2 => ((g11.alloc o).alloc o2).cell; have e_g11 := fun o => (g11.alloc o).free; replace k3 := k3.below b; try clear c_g12 f_g12 a_g12 d_g12 e_g12
      replace g12 := g12.below b; have c_g12 := g12.cell; have f_g12 := g12.free; have a_g12 := fun o => (g12.alloc o).cell; have d_g12 := fun o o2 => ((g12.alloc o).alloc o2).cell; have e_g12 := fun o => (g12.alloc o).free; replace k4 := k4.below b; try clear c_g13 f_g13 a_g13 d_g13 e_g13
      replace g13 := g13.below b; have c_g13 := g13.cell; have f_g13 := g13.free; have a_g13 := fun o => (g13.alloc o).cell; have d_g13 := fun o o2 => ((g13.alloc o).alloc o2).cell; have e_g13 := fun o => (g13.alloc o).free; replace k5 := k5.below b; try clear c_g14 f_g14 a_g14 d_g14 e_g14
      replace g14 := g14.below b; have c_g14 := g14.cell; have f_g14 := g14.free; have a_g14 := fun o => (g14.alloc o).cell; have d_g14 := fun o o2 => ((g14.alloc o).alloc o2).cell; have e_g14 := fun o => (g14.alloc o).free; try clear c_g15 f_g15 a_g15 d_g15 e_g15
      replace g15 := g15.below b; have c_g15 := g15.cell; have f_g15 := g15.free; have a_g15 := fun o => (g15.alloc o).cell; have d_g15 := fun o o2 => ((g15.alloc o).alloc o2).cell; have e_g15 := fun o => (g15.alloc o).free; replace k6 := k6.below b; try clear c_g16 f_g16 a_g16 d_g16 e_g16
      replace g16 := g16.below b; have c_g16 := g16.cell; have f_g16 := g16.free; have a_g16 := fun o => (g16.alloc o).cell; have d_g16 := fun o o2 => ((g16.alloc o).alloc o2).cell; have e_g16 := fun o => (g16.alloc o).free; try clear c_g17 f_g17 a_g17 d_g17 e_g17
      replace g17 := g17.below b; have c_g17 := g17.cell; have f_g17 := g17.free; have a_g17 := fun o => (g17.alloc o).cell; have d_g17 := fun o o2 => ((g17.alloc o).alloc o2).cell; have e_g17 := fun o => (g17.alloc o).free; replace B := B.trans (b.mono B.size); clear b
      go_wp2
      go_ret
      exact ⟨rfl, B⟩
    · have e1 := HTT.out
      dsimp only [cond] at e1
      subst e1
      clear hpv
      go_wp2_with fail
      refine (GA.out _ _ _ _ hm).mono ?_
      rintro e wa23 ⟨rfl, b⟩
      try clear c_g1 f_g1 a_g1 d_g1 e_g1
      replace g1 := g1.below b; have c_g1 := g1.cell; have f_g1 := g1.free; have a_g1 := fun o => (g1.alloc o).cell; have d_g1 := fun o o2 => ((g1.alloc o).alloc o2).cell; have e_g1 := fun o => (g1.alloc o).free; try clear c_g2 f_g2 a_g2 d_g2 e_g2
      replace g2 := g2.below b; have c_g2 := g2.cell; have f_g2 := g2.free; have a_g2 := fun o => (g2.alloc o).cell; have d_g2 := fun o o2 => ((g2.alloc o).alloc o2).cell; have e_g2 := fun o => (g2.alloc o).free; try clear c_g6 f_g6 a_g6 d_g6 e_g6
      replace g6 := g6.below b; have c_g6 := g6.cell; have f_g6 := g6.free; have a_g6 := fun o => (g6.alloc o).cell; have d_g6 := fun o o2 => ((g6.alloc o).alloc o2).cell; have e_g6 := fun o => (g6.alloc o).free; replace hm := hm.below b; replace hn := hn.below b; try clear c_g3 f_g3 a_g3 d_g3 e_g3
      replace g3 := g3.below b; have c_g3 := g3.cell; have f_g3 := g3.free; have a_g3 := fun o => (g3.alloc o).cell; have d_g3 := fun o o2 => ((g3.alloc o).alloc o2).cell; have e_g3 := fun o => (g3.alloc o).free; replace B := B.trans (b.mono B.size); clear b
      go_wp2_with fail
      refine (GB.out _ _ _ _ hn).mono ?_
      rintro e wa24 ⟨rfl, b⟩
      try clear c_g1 f_g1 a_g1 d_g1 e_g1
      replace g1 := g1.below b; have c_g1 := g1.cell; have f_g1 := g1.free; have a_g1 := fun o => (g1.alloc o).cell; have d_g1 := fun o o2 => ((g1.alloc o).alloc o2).cell; have e_g1 := fun o => (g1.alloc o).free; try clear c_g2 f_g2 a_g2 d_g2 e_g2
      replace g2 := g2.below b; have c_g2 := g2.cell; have f_g2 := g2.free; have a_g2 := fun o => (g2.alloc o).cell; have d_g2 := fun o o2 => ((g2.alloc o).alloc o2).cell; have e_g2 := fun o => (g2.alloc o).free; try clear c_g6 f_g6 a_g6 d_g6 e_g6
      replace g6 := g6.below b; have c_g6 := g6.cell; have f_g6 := g6.free; have a_g6 := fun o => (g6.alloc o).cell; have d_g6 := fun o o2 => ((g6.alloc o).alloc o2).cell; have e_g6 := fun o => (g6.alloc o).free; replace hm := hm.below b; replace hn := hn.below b; try clear c_g3 f_g3 a_g3 d_g3 e_g3
      replace g3 := g3.below b; have c_g3 := g3.cell; have f_g3 := g3.free; have a_g3 := fun o => (g3.alloc o).cell; have d_g3 := fun o o2 => ((g3.alloc o).alloc o2).cell; have e_g3 := fun o => (g3.alloc o).free; replace B := B.trans (b.mono B.size); clear b
      go_wp2_with fail
      refine (SA.out _ _ _ _ hm).mono ?_
      rintro e wa25 ⟨t1, o1, s1, rfl, k1, b⟩
      try clear c_g1 f_g1 a_g1 d_g1 e_g1
      replace g1 := g1.below b; have c_g1 := g1.cell; have f_g1 := g1.free; have a_g1 := fun o => (g1.alloc o).cell; have d_g1 := fun o o2 => ((g1.alloc o).alloc o2).cell; have e_g1 := fun o => (g1.alloc o).free; try clear c_g2 f_g2 a_g2 d_g2 e_g2
      replace g2 := g2.below b; have c_g2 := g2.cell; have f_g2 := g2.free; have a_g2 := fun o => (g2.alloc o).cell; have d_g2 := fun o o2 => ((g2.alloc o).alloc o2).cell; have e_g2 := fun o => (g2.alloc o).free; try clear c_g6 f_g6 a_g6 d_g6 e_g6
      replace g6 := g6.below b; have c_g6 := g6.cell; have f_g6 := g6.free; have a_g6 := fun o => (g6.alloc o).cell; have d_g6 := fun o o2 => ((g6.alloc o).alloc o2).cell; have e_g6 := fun o => (g6.alloc o).free; replace hm := hm.below b; replace hn := hn.below b; try clear c_g3 f_g3 a_g3 d_g3 e_g3
      replace g3 := g3.below b; have c_g3 := g3.cell; have f_g3 := g3.free; have a_g3 := fun o => (g3.alloc o).cell; have d_g3 := fun o o2 => ((g3.alloc o).alloc o2).cell; have e_g3 := fun o => (g3.alloc o).free; replace B := B.trans (b.mono B.size); clear b
      obtain ⟨⟨t1A, t1n, t1c, rfl⟩, ⟨o1A, o1n, o1c, rfl⟩, ⟨s1A, s1n, s1c, rfl⟩⟩ := k1.forms
      go_upto_region 10 with (fail)
      refine wp_gen (fun Wv => Bx Wv (wa25.heap.size) (26) (#[.slice t1A t1n t1c, .slice o1A o1n o1c, .slice s1A s1n s1c]) ∧ Below wa25.heap.size wa25 Wv) ⟨((Bx.at_ (by simp))), ((Below.refl _ wa25).alloc (by simp <;> omega) _)⟩ ?_
      rintro wa26 ⟨g10, b⟩
      try clear c_g1 f_g1 a_g1 d_g1 e_g1
      replace g1 := g1.below b; have c_g1 := g1.cell; have f_g1 := g1.free; have a_g1 := fun o => (g1.alloc o).cell; have d_g1 := fun o o2 => ((g1.alloc o).alloc o2).cell; have e_g1 := fun o => (g1.alloc o).free; try clear c_g2 f_g2 a_g2 d_g2 e_g2
      replace g2 := g2.below b; have c_g2 := g2.cell; have f_g2 := g2.free; have a_g2 := fun o => (g2.alloc o).cell; have d_g2 := fun o o2 => ((g2.alloc o).alloc o2).cell; have e_g2 := fun o => (g2.alloc o).free; try clear c_g6 f_g6 a_g6 d_g6 e_g6
      replace g6 := g6.below b; have c_g6 := g6.cell; have f_g6 := g6.free; have a_g6 := fun o => (g6.alloc o).cell; have d_g6 := fun o o2 => ((g6.alloc o).alloc o2).cell; have e_g6 := fun o => (g6.alloc o).free; replace hm := hm.below b; replace hn := hn.below b; try clear c_g3 f_g3 a_g3 d_g3 e_g3
      replace g3 := g3.below b; have c_g3 := g3.cell; have f_g3 := g3.free; have a_g3 := fun o => (g3.alloc o).cell; have d_g3 := fun o o2 => ((g3.alloc o).alloc o2).cell; have e_g3 := fun o => (g3.alloc o).free; replace k1 := k1.below b; replace B := B.trans (b.mono B.size); clear b
      have c_g10 := g10.cell; have f_g10 := g10.free; have a_g10 := fun o => (g10.alloc o).cell; have d_g10 := fun o o2 => ((g10.alloc o).alloc o2).cell; have e_g10 := fun o => (g10.alloc o).free
      go_wp2_with fail
      refine (SB.out _ _ _ _ hn).mono ?_
      rintro e wa27 ⟨t2, o2, s2, rfl, k2, b⟩
      try clear c_g1 f_g1 a_g1 d_g1 e_g1
      replace g1 := g1.below b; have c_g1 := g1.cell; have f_g1 := g1.free; have a_g1 := fun o => (g1.alloc o).cell; have d_g1 := fun o o2 => ((g1.alloc o).alloc o2).cell; have e_g1 := fun o => (g1.alloc o).free; try clear c_g2 f_g2 a_g2 d_g2 e_g2
      replace g2 := g2.below b; have c_g2 := g2.cell; have f_g2 := g2.free; have a_g2 := fun o => (g2.alloc o).cell; have d_g2 := fun o o2 => ((g2.alloc o).alloc o2).cell; have e_g2 := fun o => (g2.alloc o).free; try clear c_g6 f_g6 a_g6 d_g6 e_g6
      replace g6 := g6.below b; have c_g6 := g6.cell; have f_g6 := g6.free; have a_g6 := fun o => (g6.alloc o).cell; have d_g6 := fun o o2 => ((g6.alloc o).alloc o2).cell; have e_g6 := fun o => (g6.alloc o).free; replace hm := hm.below b; replace hn := hn.below b; try clear c_g3 f_g3 a_g3 d_g3 e_g3
      replace g3 := g3.below b; have c_g3 := g3.cell; have f_g3 := g3.free; have a_g3 := fun o => (g3.alloc o).cell; have d_g3 := fun o o2 => ((g3.alloc o).alloc o2).cell; have e_g3 := fun o => (g3.alloc o).free; replace k1 := k1.below b; try clear c_g10 f_g10 a_g10 d_g10 e_g10
      replace g10 := g10.below b; have c_g10 := g10.cell; have f_g10 := g10.free; have a_g10 := fun o => (g10.alloc o).cell; have d_g10 := fun o o2 => ((g10.alloc o).alloc o2).cell; have e_g10 := fun o => (g10.alloc o).free; replace B := B.trans (b.mono B.size); clear b
      obtain ⟨⟨t2A, t2n, t2c, rfl⟩, ⟨o2A, o2n, o2c, rfl⟩, ⟨s2A, s2n, s2c, rfl⟩⟩ := k2.forms
      go_upto_region 11 with (fail)
      refine wp_gen (fun Wv => Bx Wv (wa27.heap.size) (26) (#[.slice t2A t2n t2c, .slice o2A o2n o2c, .slice s2A s2n s2c]) ∧ Below wa27.heap.size wa27 Wv) ⟨((Bx.at_ (by simp))), ((Below.refl _ wa27).alloc (by simp <;> omega) _)⟩ ?_
      rintro wa28 ⟨g11, b⟩
      try clear c_g1 f_g1 a_g1 d_g1 e_g1
      replace g1 := g1.below b; have c_g1 := g1.cell; have f_g1 := g1.free; have a_g1 := fun o => (g1.alloc o).cell; have d_g1 := fun o o2 => ((g1.alloc o).alloc o2).cell; have e_g1 := fun o => (g1.alloc o).free; try clear c_g2 f_g2 a_g2 d_g2 e_g2
      replace g2 := g2.below b; have c_g2 := g2.cell; have f_g2 := g2.free; have a_g2 := fun o => (g2.alloc o).cell; have d_g2 := fun o o2 => ((g2.alloc o).alloc o2).cell; have e_g2 := fun o => (g2.alloc o).free; try clear c_g6 f_g6 a_g6 d_g6 e_g6
      replace g6 := g6.below b; have c_g6 := g6.cell; have f_g6 := g6.free; have a_g6 := fun o => (g6.alloc o).cell; have d_g6 := fun o o2 => ((g6.alloc o).alloc o2).cell; have e_g6 := fun o => (g6.alloc o).free; replace hm := hm.below b; replace hn := hn.below b; try clear c_g3 f_g3 a_g3 d_g3 e_g3
      replace g3 := g3.below b; have c_g3 := g3.cell; have f_g3 := g3.free; have a_g3 := fun o => (g3.alloc o).cell; have d_g3 := fun o o2 => ((g3.alloc o).alloc o2).cell; have e_g3 := fun o => (g3.alloc o).free; replace k1 := k1.below b; try clear c_g10 f_g10 a_g10 d_g10 e_g10
      replace g10 := g10.below b; have c_g10 := g10.cell; have f_g10 := g10.free; have a_g10 := fun o => (g10.alloc o).cell; have d_g10 := fun o o2 => ((g10.alloc o).alloc o2).cell; have e_g10 := fun o => (g10.alloc o).free; replace k2 := k2.below b; replace B := B.trans (b.mono B.size); clear b
      have c_g11 := g11.cell; have f_g11 := g11.free; have a_g11 := fun o => (g11.alloc o).cell; have d_g11 := fun o o2 => ((g11.alloc o).alloc o2).cell; have e_g11 := fun o => (g11.alloc o).free
      go_wp2_with fail
      refine (RA.out _ _ _ _ _ hm rfl).mono ?_
      rintro e wa29 ⟨t3, o3, s3, rfl, k3, b⟩
      try clear c_g1 f_g1 a_g1 d_g1 e_g1
      replace g1 := g1.below b; have c_g1 := g1.cell; have f_g1 := g1.free; have a_g1 := fun o => (g1.alloc o).cell; have d_g1 := fun o o2 => ((g1.alloc o).alloc o2).cell; have e_g1 := fun o => (g1.alloc o).free; try clear c_g2 f_g2 a_g2 d_g2 e_g2
      replace g2 := g2.below b; have c_g2 := g2.cell; have f_g2 := g2.free; have a_g2 := fun o => (g2.alloc o).cell; have d_g2 := fun o o2 => ((g2.alloc o).alloc o2).cell; have e_g2 := fun o => (g2.alloc o).free; try clear c_g6 f_g6 a_g6 d_g6 e_g6
      replace g6 := g6.below b; have c_g6 := g6.cell; have f_g6 := g6.free; have a_g6 := fun o => (g6.alloc o).cell; have d_g6 := fun o o2 => ((g6.alloc o).alloc o2).cell; have e_g6 := fun o => (g6.alloc o).free; replace hm := hm.below b; replace hn := hn.below b; try clear c_g3 f_g3 a_g3 d_g3 e_g3
      replace g3 := g3.below b; have c_g3 := g3.cell; have f_g3 := g3.free; have a_g3 := fun o => (g3.alloc o).cell; have d_g3 := fun o o2 => ((g3.alloc o).alloc o2).cell; have e_g3 := fun o => (g3.alloc o).free; replace k1 := k1.below b; try clear c_g10 f_g10 a_g10 d_g10 e_g10
      replace g10 := g10.below b; have c_g10 := g10.cell; have f_g10 := g10.free; have a_g10 := fun o => (g10.alloc o).cell; have d_g10 := fun o o2 => ((g10.alloc o).alloc o2).cell; have e_g10 := fun o => (g10.alloc o).free; replace k2 := k2.below b; try clear c_g11 f_g11 a_g11 d_g11 e_g11
      replace g11 := g11.below b; have c_g11 := g11.cell; have f_g11 := g11.free; have a_g11 := fun o => (g11.alloc o).cell; have d_g11 := fun o o2 => ((g11.alloc o).alloc o2).cell; have e_g11 := fun o => (g11.alloc o).free; replace B := B.trans (b.mono B.size); clear b
      obtain ⟨⟨t3A, t3n, t3c, rfl⟩, ⟨o3A, o3n, o3c, rfl⟩, ⟨s3A, s3n, s3c, rfl⟩⟩ := k3.forms
      go_upto_region 12 with (fail)
      refine wp_gen (fun Wv => Bx Wv (wa29.heap.size) (26) (#[.slice t3A t3n t3c, .slice o3A o3n o3c, .slice s3A s3n s3c]) ∧ Below wa29.heap.size wa29 Wv) ⟨((Bx.at_ (by simp))), ((Below.refl _ wa29).alloc (by simp <;> omega) _)⟩ ?_
      rintro wa30 ⟨g12, b⟩
      try clear c_g1 f_g1 a_g1 d_g1 e_g1
      replace g1 := g1.below b; have c_g1 := g1.cell; have f_g1 := g1.free; have a_g1 := fun o => (g1.alloc o).cell; have d_g1 := fun o o2 => ((g1.alloc o).alloc o2).cell; have e_g1 := fun o => (g1.alloc o).free; try clear c_g2 f_g2 a_g2 d_g2 e_g2
      replace g2 := g2.below b; have c_g2 := g2.cell; have f_g2 := g2.free; have a_g2 := fun o => (g2.alloc o).cell; have d_g2 := fun o o2 => ((g2.alloc o).alloc o2).cell; have e_g2 := fun o => (g2.alloc o).free; try clear c_g6 f_g6 a_g6 d_g6 e_g6
      replace g6 := g6.below b; have c_g6 := g6.cell; have f_g6 := g6.free; have a_g6 := fun o => (g6.alloc o).cell; have d_g6 := fun o o2 => ((g6.alloc o).alloc o2).cell; have e_g6 := fun o => (g6.alloc o).free; replace hm := hm.below b; replace hn := hn.below b; try clear c_g3 f_g3 a_g3 d_g3 e_g3
      replace g3 := g3.below b; have c_g3 := g3.cell; have f_g3 := g3.free; have a_g3 := fun o => (g3.alloc o).cell; have d_g3 := fun o o2 => ((g3.alloc o).alloc o2).cell; have e_g3 := fun o => (g3.alloc o).free; replace k1 := k1.below b; try clear c_g10 f_g10 a_g10 d_g10 e_g10
      replace g10 := g10.below b; have c_g10 := g10.cell; have f_g10 := g10.free; have a_g10 := fun o => (g10.alloc o).cell; have d_g10 := fun o o2 => ((g10.alloc o).alloc o2).cell; have e_g10 := fun o => (g10.alloc o).free; replace k2 := k2.below b; try clear c_g11 f_g11 a_g11 d_g11 e_g11
      replace g11 := g11.below b; have c_g11 := g11.cell; have f_g11 := g11.free; have a_g11 := fun o => (g11.alloc o).cell; have d_g11 := fun o o2 => ((g11.alloc o).alloc o2).cell; have e_g11 := fun o => (g11.alloc o).free; replace k3 := k3.below b; replace B := B.trans (b.mono B.size); clear b
      have c_g12 := g12.cell; have f_g12 := g12.free; have a_g12 := fun o => (g12.alloc o).cell; have d_g12 := fun o o2 => ((g12.alloc o).alloc o2).cell; have e_g12 := fun o => (g12.alloc o).free
      go_wp2_with fail
      refine (RB.out _ _ _ _ _ hn rfl).mono ?_
      rintro e wa31 ⟨t4, o4, s4, rfl, k4, b⟩
      try clear c_g1 f_g1 a_g1 d_g1 e_g1
      replace g1 := g1.below b; have c_g1 := g1.cell; have f_g1 := g1.free; have a_g1 := fun o => (g1.alloc o).cell; have d_g1 := fun o o2 => ((g1.alloc o).alloc o2).cell; have e_g1 := fun o => (g1.alloc o).free; try clear c_g2 f_g2 a_g2 d_g2 e_g2
      replace g2 := g2.below b; have c_g2 := g2.cell; have f_g2 := g2.free; have a_g2 := fun o => (g2.alloc o).cell; have d_g2 := fun o o2 => ((g2.alloc o).alloc o2).cell; have e_g2 := fun o => (g2.alloc o).free; try clear c_g6 f_g6 a_g6 d_g6 e_g6
      replace g6 := g6.below b; have c_g6 := g6.cell; have f_g6 := g6.free; have a_g6 := fun o => (g6.alloc o).cell; have d_g6 := fun o o2 => ((g6.alloc o).alloc o2).cell; have e_g6 := fun o => (g6.alloc o).free; replace hm := hm.below b; replace hn := hn.below b; try clear c_g3 f_g3 a_g3 d_g3 e_g3
      replace g3 := g3.below b; have c_g3 := g3.cell; have f_g3 := g3.free; have a_g3 := fun o => (g3.alloc o).cell; have d_g3 := fun o o2 => ((g3.alloc o).alloc o2).cell; have e_g3 := fun o => (g3.alloc o).free; replace k1 := k1.below b; try clear c_g10 f_g10 a_g10 d_g10 e_g10
      replace g10 := g10.below b; have c_g10 := g10.cell; have f_g10 := g10.free; have a_g10 := fun o => (g10.alloc o).cell; have d_g10 := fun o o2 => ((g10.alloc o).alloc o2).cell; have e_g10 := fun o => (g10.alloc o).free; replace k2 := k2.below b; try clear c_g11 f_g11 a_g11 d_g11 e_g11
      replace g11 := g11.below b; have c_g11 := g11.cell; have f_g11 := g11.free; have a_g11 := fun o => (g11.alloc o).cell; have d_g11 := fun o o2 => ((g11.alloc o).alloc o2).cell; have e_g11 := fun o => (g11.alloc o).free; replace k3 := k3.below b; try clear c_g12 f_g12 a_g12 d_g12 e_g12
      replace g12 := g12.below b; have c_g12 := g12.cell; have f_g12 := g12.free; have a_g12 := fun o => (g12.alloc o).cell; have d_g12 := fun o o2 => ((g12.alloc o).alloc o2).cell; have e_g12 := fun o => (g12.alloc o).free; replace B := B.trans (b.mono B.size); clear b
      obtain ⟨⟨t4A, t4n, t4c, rfl⟩, ⟨o4A, o4n, o4c, rfl⟩, ⟨s4A, s4n, s4c, rfl⟩⟩ := k4.forms
      go_upto_region 13 with (fail)
      refine wp_gen (fun Wv => Bx Wv (wa31.heap.size) (26) (#[.slice t4A t4n t4c, .slice o4A o4n o4c, .slice s4A s4n s4c]) ∧ Below wa31.heap.size wa31 Wv) ⟨((Bx.at_ (by simp))), ((Below.refl _ wa31).alloc (by simp <;> omega) _)⟩ ?_
      rintro wa32 ⟨g13, b⟩
      try clear c_g1 f_g1 a_g1 d_g1 e_g1
      replace g1 := g1.below b; have c_g1 := g1.cell; have f_g1 := g1.free; have a_g1 := fun o => (g1.alloc o).cell; have d_g1 := fun o o2 => ((g1.alloc o).alloc o2).cell; have e_g1 := fun o => (g1.alloc o).free; try clear c_g2 f_g2 a_g2 d_g2 e_g2
      replace g2 := g2.below b; have c_g2 := g2.cell; have f_g2 := g2.free; have a_g2 := fun o => (g2.alloc o).cell; have d_g2 := fun o o2 => ((g2.alloc o).alloc o2).cell; have e_g2 := fun o => (g2.alloc o).free; try clear c_g6 f_g6 a_g6 d_g6 e_g6
      replace g6 := g6.below b; have c_g6 := g6.cell; have f_g6 := g6.free; have a_g6 := fun o => (g6.alloc o).cell; have d_g6 := fun o o2 => ((g6.alloc o).alloc o2).cell; have e_g6 := fun o => (g6.alloc o).free; replace hm := hm.below b; replace hn := hn.below b; try clear c_g3 f_g3 a_g3 d_g3 e_g3
      replace g3 := g3.below b; have c_g3 := g3.cell; have f_g3 := g3.free; have a_g3 := fun o => (g3.alloc o).cell; have d_g3 := fun o o2 => ((g3.alloc o).alloc o2).cell; have e_g3 := fun o => (g3.alloc o).free; replace k1 := k1.below b; try clear c_g10 f_g10 a_g10 d_g10 e_g10
      replace g10 := g10.below b; have c_g10 := g10.cell; have f_g10 := g10.free; have a_g10 := fun o => (g10.alloc o).cell; have d_g10 := fun o o2 => ((g10.alloc o).alloc o2).cell; have e_g10 := fun o => (g10.alloc o).free; replace k2 := k2.below b; try clear c_g11 f_g11 a_g11 d_g11 e_g11
      replace g11 := g11.below b; have c_g11 := g11.cell; have f_g11 := g11.free; have a_g11 := fun o => (g11.alloc o).cell; have d_g11 := fun o o2 => ((g11.alloc o).alloc o2).cell; have e_g11 := fun o => (g11.alloc o).free; replace k3 := k3.below b; try clear c_g12 f_g12 a_g12 d_g12 e_g12
      replace g12 := g12.below b; have c_g12 := g12.cell; have f_g12 := g12.free; have a_g12 := fun o => (g12.alloc o).cell; have d_g12 := fun o o2 => ((g12.alloc o).alloc o2).cell; have e_g12 := fun o => (g12.alloc o).free; replace k4 := k4.below b; replace B := B.trans (b.mono B.size); clear b
      have c_g13 := g13.cell; have f_g13 := g13.free; have a_g13 := fun o => (g13.alloc o).cell; have d_g13 := fun o o2 => ((g13.alloc o).alloc o2).cell; have e_g13 := fun o => (g13.alloc o).free
      go_wp2_with fail
      refine (QA.out _ _ _ _ hm).mono ?_
      rintro e wa33 ⟨t5, o5, s5, rfl, k5, b⟩
      try clear c_g1 f_g1 a_g1 d_g1 e_g1
      replace g1 := g1.below b; have c_g1 := g1.cell; have f_g1 := g1.free; have a_g1 := fun o => (g1.alloc o).cell; have d_g1 := fun o o2 => ((g1.alloc o).alloc o2).cell; have e_g1 := fun o => (g1.alloc o).free; try clear c_g2 f_g2 a_g2 d_g2 e_g2
      replace g2 := g2.below b; have c_g2 := g2.cell; have f_g2 := g2.free; have a_g2 := fun o => (g2.alloc o).cell; have d_g2 := fun o o2 => ((g2.alloc o).alloc o2).cell; have e_g2 := fun o => (g2.alloc o).free; try clear c_g6 f_g6 a_g6 d_g6 e_g6
      replace g6 := g6.below b; have c_g6 := g6.cell; have f_g6 := g6.free; have a_g6 := fun o => (g6.alloc o).cell; have d_g6 := fun o o2 => ((g6.alloc o).alloc o2).cell; have e_g6 := fun o => (g6.alloc o).free; replace hm := hm.below b; replace hn := hn.below b; try clear c_g3 f_g3 a_g3 d_g3 e_g3
      replace g3 := g3.below b; have c_g3 := g3.cell; have f_g3 := g3.free; have a_g3 := fun o => (g3.alloc o).cell; have d_g3 := fun o o2 => ((g3.alloc o).alloc o2).cell; have e_g3 := fun o => (g3.alloc o).free; replace k1 := k1.below b; try clear c_g10 f_g10 a_g10 d_g10 e_g10
      replace g10 := g10.below b; have c_g10 := g10.cell; have f_g10 := g10.free; have a_g10 := fun o => (g10.alloc o).cell; have d_g10 := fun o o2 => ((g10.alloc o).alloc o2).cell; have e_g10 := fun o => (g10.alloc o).free; replace k2 := k2.below b; try clear c_g11 f_g11 a_g11 d_g11 e_g11
      replace g11 := g11.below b; have c_g11 := g11.cell; have f_g11 := g11.free; have a_g11 := fun o => (g11.alloc o).cell; have d_g11 := fun o o2 => ((g11.alloc o).alloc o2).cell; have e_g11 := fun o => (g11.alloc o).free; replace k3 := k3.below b; try clear c_g12 f_g12 a_g12 d_g12 e_g12
      replace g12 := g12.below b; have c_g12 := g12.cell; have f_g12 := g12.free; have a_g12 := fun o => (g12.alloc o).cell; have d_g12 := fun o o2 => ((g12.alloc o).alloc o2).cell; have e_g12 := fun o => (g12.alloc o).free; replace k4 := k4.below b; try clear c_g13 f_g13 a_g13 d_g13 e_g13
      replace g13 := g13.below b; have c_g13 := g13.cell; have f_g13 := g13.free; have a_g13 := fun o => (g13.alloc o).cell; have d_g13 := fun o o2 => ((g13.alloc o).alloc o2).cell; have e_g13 := fun o => (g13.alloc o).free; replace B := B.trans (b.mono B.size); clear b
      obtain ⟨⟨t5A, t5n, t5c, rfl⟩, ⟨o5A, o5n, o5c, rfl⟩, ⟨s5A, s5n, s5c, rfl⟩⟩ := k5.forms
      go_upto_region 14 with (fail)
      refine wp_gen (fun Wv => Bx Wv (wa33.heap.size) (26) (#[.slice t5A t5n t5c, .slice o5A o5n o5c, .slice s5A s5n s5c]) ∧ Bx Wv (wa33.heap.size + 1) (28) (#[.int .i64 hs4, .int .i64 hg4]) ∧ Below wa33.heap.size wa33 Wv) ⟨(((Bx.at_ (by simp)).alloc _)), ((Bx.at_ (by simp))), (((Below.refl _ wa33).alloc (by simp <;> omega) _).alloc (by simp <;> omega) _)⟩ ?_
      rintro wa34 ⟨g14, g15, b⟩
      try clear c_g1 f_g1 a_g1 d_g1 e_g1
      replace g1 := g1.below b; have c_g1 := g1.cell; have f_g1 := g1.free; have a_g1 := fun o => (g1.alloc o).cell; have d_g1 := fun o o2 => ((g1.alloc o).alloc o2).cell; have e_g1 := fun o => (g1.alloc o).free; try clear c_g2 f_g2 a_g2 d_g2 e_g2
      replace g2 := g2.below b; have c_g2 := g2.cell; have f_g2 := g2.free; have a_g2 := fun o => (g2.alloc o).cell; have d_g2 := fun o o2 => ((g2.alloc o).alloc o2).cell; have e_g2 := fun o => (g2.alloc o).free; try clear c_g6 f_g6 a_g6 d_g6 e_g6
      replace g6 := g6.below b; have c_g6 := g6.cell; have f_g6 := g6.free; have a_g6 := fun o => (g6.alloc o).cell; have d_g6 := fun o o2 => ((g6.alloc o).alloc o2).cell; have e_g6 := fun o => (g6.alloc o).free; replace hm := hm.below b; replace hn := hn.below b; try clear c_g3 f_g3 a_g3 d_g3 e_g3
      replace g3 := g3.below b; have c_g3 := g3.cell; have f_g3 := g3.free; have a_g3 := fun o => (g3.alloc o).cell; have d_g3 := fun o o2 => ((g3.alloc o).alloc o2).cell; have e_g3 := fun o => (g3.alloc o).free; replace k1 := k1.below b; try clear c_g10 f_g10 a_g10 d_g10 e_g10
      replace g10 := g10.below b; have c_g10 := g10.cell; have f_g10 := g10.free; have a_g10 := fun o => (g10.alloc o).cell; have d_g10 := fun o o2 => ((g10.alloc o).alloc o2).cell; have e_g10 := fun o => (g10.alloc o).free; replace k2 := k2.below b; try clear c_g11 f_g11 a_g11 d_g11 e_g11
      replace g11 := g11.below b; have c_g11 := g11.cell; have f_g11 := g11.free; have a_g11 := fun o => (g11.alloc o).cell; have d_g11 := fun o o2 => ((g11.alloc o).alloc o2).cell; have e_g11 := fun o => (g11.alloc o).free; replace k3 := k3.below b; try clear c_g12 f_g12 a_g12 d_g12 e_g12
      replace g12 := g12.below b; have c_g12 := g12.cell; have f_g12 := g12.free; have a_g12 := fun o => (g12.alloc o).cell; have d_g12 := fun o o2 => ((g12.alloc o).alloc o2).cell; have e_g12 := fun o => (g12.alloc o).free; replace k4 := k4.below b; try clear c_g13 f_g13 a_g13 d_g13 e_g13
      replace g13 := g13.below b; have c_g13 := g13.cell; have f_g13 := g13.free; have a_g13 := fun o => (g13.alloc o).cell; have d_g13 := fun o o2 => ((g13.alloc o).alloc o2).cell; have e_g13 := fun o => (g13.alloc o).free; replace k5 := k5.below b; replace B := B.trans (b.mono B.size); clear b
      have c_g14 := g14.cell; have f_g14 := g14.free; have a_g14 := fun o => (g14.alloc o).cell; have d_g14 := fun o o2 => ((g14.alloc o).alloc o2).cell; have e_g14 := fun o => (g14.alloc o).free
      have c_g15 := g15.cell; have f_g15 := g15.free; have a_g15 := fun o => (g15.alloc o).cell; have d_g15 := fun o o2 => ((g15.alloc o).alloc o2).cell; have e_g15 := fun o => (g15.alloc o).free
      go_wp2_with fail
      refine (QB.out _ _ _ _ hn).mono ?_
      rintro e wa35 ⟨t6, o6, s6, rfl, k6, b⟩
      try clear c_g1 f_g1 a_g1 d_g1 e_g1
      replace g1 := g1.below b; have c_g1 := g1.cell; have f_g1 := g1.free; have a_g1 := fun o => (g1.alloc o).cell; have d_g1 := fun o o2 => ((g1.alloc o).alloc o2).cell; have e_g1 := fun o => (g1.alloc o).free; try clear c_g2 f_g2 a_g2 d_g2 e_g2
      replace g2 := g2.below b; have c_g2 := g2.cell; have f_g2 := g2.free; have a_g2 := fun o => (g2.alloc o).cell; have d_g2 := fun o o2 => ((g2.alloc o).alloc o2).cell; have e_g2 := fun o => (g2.alloc o).free; try clear c_g6 f_g6 a_g6 d_g6 e_g6
      replace g6 := g6.below b; have c_g6 := g6.cell; have f_g6 := g6.free; have a_g6 := fun o => (g6.alloc o).cell; have d_g6 := fun o o2 => ((g6.alloc o).alloc o2).cell; have e_g6 := fun o => (g6.alloc o).free; replace hm := hm.below b; replace hn := hn.below b; try clear c_g3 f_g3 a_g3 d_g3 e_g3
      replace g3 := g3.below b; have c_g3 := g3.cell; have f_g3 := g3.free; have a_g3 := fun o => (g3.alloc o).cell; have d_g3 := fun o o2 => ((g3.alloc o).alloc o2).cell; have e_g3 := fun o => (g3.alloc o).free; replace k1 := k1.below b; try clear c_g10 f_g10 a_g10 d_g10 e_g10
      replace g10 := g10.below b; have c_g10 := g10.cell; have f_g10 := g10.free; have a_g10 := fun o => (g10.alloc o).cell; have d_g10 := fun o o2 => ((g10.alloc o).alloc o2).cell; have e_g10 := fun o => (g10.alloc o).free; replace k2 := k2.below b; try clear c_g11 f_g11 a_g11 d_g11 e_g11
      replace g11 := g11.below b; have c_g11 := g11.cell; have f_g11 := g11.free; have a_g11 := fun o => (g11.alloc o).cell; have d_g11 := fun o o2 => ((g11.alloc o).alloc o2).cell; have e_g11 := fun o => (g11.alloc o).free; replace k3 := k3.below b; try clear c_g12 f_g12 a_g12 d_g12 e_g12
      replace g12 := g12.below b; have c_g12 := g12.cell; have f_g12 := g12.free; have a_g12 := fun o => (g12.alloc o).cell; have d_g12 := fun o o2 => ((g12.alloc o).alloc o2).cell; have e_g12 := fun o => (g12.alloc o).free; replace k4 := k4.below b; try clear c_g13 f_g13 a_g13 d_g13 e_g13
      replace g13 := g13.below b; have c_g13 := g13.cell; have f_g13 := g13.free; have a_g13 := fun o => (g13.alloc o).cell; have d_g13 := fun o o2 => ((g13.alloc o).alloc o2).cell; have e_g13 := fun o => (g13.alloc o).free; replace k5 := k5.below b; try clear c_g14 f_g14 a_g14 d_g14 e_g14
      replace g14 := g14.below b; have c_g14 := g14.cell; have f_g14 := g14.free; have a_g14 := fun o => (g14.alloc o).cell; have d_g14 := fun o o2 => ((g14.alloc o).alloc o2).cell; have e_g14 := fun o => (g14.alloc o).free; try clear c_g15 f_g15 a_g15 d_g15 e_g15
      replace g15 := g15.below b; have c_g15 := g15.cell; have f_g15 := g15.free; have a_g15 := fun o => (g15.alloc o).cell; have d_g15 := fun o o2 => ((g15.alloc o).alloc o2).cell; have e_g15 := fun o => (g15.alloc o).free; replace B := B.trans (b.mono B.size); clear b
      obtain ⟨⟨t6A, t6n, t6c, rfl⟩, ⟨o6A, o6n, o6c, rfl⟩, ⟨s6A, s6n, s6c, rfl⟩⟩ := k6.forms
      go_upto_region 15 with (fail)
      refine wp_gen (fun Wv => Bx Wv (wa35.heap.size) (26) (#[.slice t6A t6n t6c, .slice o6A o6n o6c, .slice s6A s6n s6c]) ∧ Bx Wv (wa35.heap.size + 1) (28) (#[.int .i64 hs4, .int .i64 hg4]) ∧ Below wa35.heap.size wa35 Wv) ⟨(((Bx.at_ (by simp)).alloc _)), ((Bx.at_ (by simp))), (((Below.refl _ wa35).alloc (by simp <;> omega) _).alloc (by simp <;> omega) _)⟩ ?_
      rintro wa36 ⟨g16, g17, b⟩
      try clear c_g1 f_g1 a_g1 d_g1 e_g1
      replace g1 := g1.below b; have c_g1 := g1.cell; have f_g1 := g1.free; have a_g1 := fun o => (g1.alloc o).cell; have d_g1 := fun o o2 => ((g1.alloc o).alloc o2).cell; have e_g1 := fun o => (g1.alloc o).free; try clear c_g2 f_g2 a_g2 d_g2 e_g2
      replace g2 := g2.below b; have c_g2 := g2.cell; have f_g2 := g2.free; have a_g2 := fun o => (g2.alloc o).cell; have d_g2 := fun o o2 => ((g2.alloc o).alloc o2).cell; have e_g2 := fun o => (g2.alloc o).free; try clear c_g6 f_g6 a_g6 d_g6 e_g6
      replace g6 := g6.below b; have c_g6 := g6.cell; have f_g6 := g6.free; have a_g6 := fun o => (g6.alloc o).cell; have d_g6 := fun o o2 => ((g6.alloc o).alloc o2).cell; have e_g6 := fun o => (g6.alloc o).free; replace hm := hm.below b; replace hn := hn.below b; try clear c_g3 f_g3 a_g3 d_g3 e_g3
      replace g3 := g3.below b; have c_g3 := g3.cell; have f_g3 := g3.free; have a_g3 := fun o => (g3.alloc o).cell; have d_g3 := fun o o2 => ((g3.alloc o).alloc o2).cell; have e_g3 := fun o => (g3.alloc o).free; replace k1 := k1.below b; try clear c_g10 f_g10 a_g10 d_g10 e_g10
      replace g10 := g10.below b; have c_g10 := g10.cell; have f_g10 := g10.free; have a_g10 := fun o => (g10.alloc o).cell; have d_g10 := fun o o2 => ((g10.alloc o).alloc o2).cell; have e_g10 := fun o => (g10.alloc o).free; replace k2 := k2.below b; try clear c_g11 f_g11 a_g11 d_g11 e_g11
      replace g11 := g11.below b; have c_g11 := g11.cell; have f_g11 := g11.free; have a_g11 := fun o => (g11.alloc o).cell; have d_g11 := fun o o2 => ((g11.alloc o).alloc o2).cell; have e_g11 := fun o => (g11.alloc o).free; replace k3 := k3.below b; try clear c_g12 f_g12 a_g12 d_g12 e_g12
      replace g12 := g12.below b; have c_g12 := g12.cell; have f_g12 := g12.free; have a_g12 := fun o => (g12.alloc o).cell; have d_g12 := fun o o2 => ((g12.alloc o).alloc o2).cell; have e_g12 := fun o => (g12.alloc o).free; replace k4 := k4.below b; try clear c_g13 f_g13 a_g13 d_g13 e_g13
      replace g13 := g13.below b; have c_g13 := g13.cell; have f_g13 := g13.free; have a_g13 := fun o => (g13.alloc o).cell; have d_g13 := fun o o2 => ((g13.alloc o).alloc o2).cell; have e_g13 := fun o => (g13.alloc o).free; replace k5 := k5.below b; try clear c_g14 f_g14 a_g14 d_g14 e_g14
      replace g14 := g14.below b; have c_g14 := g14.cell; have f_g14 := g14.free; have a_g14 := fun o => (g14.alloc o).cell; have d_g14 := fun o o2 => ((g14.alloc o).alloc o2).cell; have e_g14 := fun o => (g14.alloc o).free; try clear c_g15 f_g15 a_g15 d_g15 e_g15
      replace g15 := g15.below b; have c_g15 := g15.cell; have f_g15 := g15.free; have a_g15 := fun o => (g15.alloc o).cell; have d_g15 := fun o o2 => ((g15.alloc o).alloc o2).cell; have e_g15 := fun o => (g15.alloc o).free; replace k6 := k6.below b; replace B := B.trans (b.mono B.size); clear b
      have c_g16 := g16.cell; have f_g16 := g16.free; have a_g16 := fun o => (g16.alloc o).cell; have d_g16 := fun o o2 => ((g16.alloc o).alloc o2).cell; have e_g16 := fun o => (g16.alloc o).free
      have c_g17 := g17.cell; have f_g17 := g17.free; have a_g17 := fun o => (g17.alloc o).cell; have d_g17 := fun o o2 => ((g17.alloc o).alloc o2).cell; have e_g17 := fun o => (g17.alloc o).free
      go_wp2_with fail
      refine (SM.out _ _ _ _ _ _ _ _ k1 k2).mono ?_
      rintro e wa37 ⟨rfl, b⟩
      try clear c_g1 f_g1 a_g1 d_g1 e_g1
      replace g1 := g1.below b; have c_g1 := g1.cell; have f_g1 := g1.free; have a_g1 := fun o => (g1.alloc o).cell; have d_g1 := fun o o2 => ((g1.alloc o).alloc o2).cell; have e_g1 := fun o => (g1.alloc o).free; try clear c_g2 f_g2 a_g2 d_g2 e_g2
      replace g2 := g2.below b; have c_g2 := g2.cell; have f_g2 := g2.free; have a_g2 := fun o => (g2.alloc o).cell; have d_g2 := fun o o2 => ((g2.alloc o).alloc o2).cell; have e_g2 := fun o => (g2.alloc o).free; try clear c_g6 f_g6 a_g6 d_g6 e_g6
      replace g6 := g6.below b; have c_g6 := g6.cell; have f_g6 := g6.free; have a_g6 := fun o => (g6.alloc o).cell; have d_g6 := fun o o2 => ((g6.alloc o).alloc o2).cell; have e_g6 := fun o => (g6.alloc o).free; replace hm := hm.below b; replace hn := hn.below b; try clear c_g3 f_g3 a_g3 d_g3 e_g3
      replace g3 := g3.below b; have c_g3 := g3.cell; have f_g3 := g3.free; have a_g3 := fun o => (g3.alloc o).cell; have d_g3 := fun o o2 => ((g3.alloc o).alloc o2).cell; have e_g3 := fun o => (g3.alloc o).free; replace k1 := k1.below b; try clear c_g10 f_g10 a_g10 d_g10 e_g10
      replace g10 := g10.below b; have c_g10 := g10.cell; have f_g10 := g10.free; have a_g10 := fun o => (g10.alloc o).cell; have d_g10 := fun o o2 => ((g10.alloc o).alloc o2).cell; have e_g10 := fun o => (g10.alloc o).free; replace k2 := k2.below b; try clear c_g11 f_g11 a_g11 d_g11 e_g11
      replace g11 := g11.below b; have c_g11 := g11.cell; have f_g11 := g11.free; have a_g11 := fun o => (g11.alloc o).cell; have d_g11 := fun o o2 => ((g11.alloc o).alloc o2).cell; have e_g11 := fun o => (g11.alloc o).free; replace k3 := k3.below b; try clear c_g12 f_g12 a_g12 d_g12 e_g12
      replace g12 := g12.below b; have c_g12 := g12.cell; have f_g12 := g12.free; have a_g12 := fun o => (g12.alloc o).cell; have d_g12 := fun o o2 => ((g12.alloc o).alloc o2).cell; have e_g12 := fun o => (g12.alloc o).free; replace k4 := k4.below b; try clear c_g13 f_g13 a_g13 d_g13 e_g13
      replace g13 := g13.below b; have c_g13 := g13.cell; have f_g13 := g13.free; have a_g13 := fun o => (g13.alloc o).cell; have d_g13 := fun o o2 => ((g13.alloc o).alloc o2).cell; have e_g13 := fun o => (g13.alloc o).free; replace k5 := k5.below b; try clear c_g14 f_g14 a_g14 d_g14 e_g14
      replace g14 := g14.below b; have c_g14 := g14.cell; have f_g14 := g14.free; have a_g14 := fun o => (g14.alloc o).cell; have d_g14 := fun o o2 => ((g14.alloc o).alloc o2).cell; have e_g14 := fun o => (g14.alloc o).free; try clear c_g15 f_g15 a_g15 d_g15 e_g15
      replace g15 := g15.below b; have c_g15 := g15.cell; have f_g15 := g15.free; have a_g15 := fun o => (g15.alloc o).cell; have d_g15 := fun o o2 => ((g15.alloc o).alloc o2).cell; have e_g15 := fun o => (g15.alloc o).free; replace k6 := k6.below b; try clear c_g16 f_g16 a_g16 d_g16 e_g16
      replace g16 := g16.below b; have c_g16 := g16.cell; have f_g16 := g16.free; have a_g16 := fun o => (g16.alloc o).cell; have d_g16 := fun o o2 => ((g16.alloc o).alloc o2).cell; have e_g16 := fun o => (g16.alloc o).free; try clear c_g17 f_g17 a_g17 d_g17 e_g17
      replace g17 := g17.below b; have c_g17 := g17.cell; have f_g17 := g17.free; have a_g17 := fun o => (g17.alloc o).cell; have d_g17 := fun o o2 => ((g17.alloc o).alloc o2).cell; have e_g17 := fun o => (g17.alloc o).free; replace B := B.trans (b.mono B.size); clear b
      go_wp2_with fail
      refine (SM.out _ _ _ _ _ _ _ _ k3 k4).mono ?_
      rintro e wa38 ⟨rfl, b⟩
      try clear c_g1 f_g1 a_g1 d_g1 e_g1
      replace g1 := g1.below b; have c_g1 := g1.cell; have f_g1 := g1.free; have a_g1 := fun o => (g1.alloc o).cell; have d_g1 := fun o o2 => ((g1.alloc o).alloc o2).cell; have e_g1 := fun o => (g1.alloc o).free; try clear c_g2 f_g2 a_g2 d_g2 e_g2
      replace g2 := g2.below b; have c_g2 := g2.cell; have f_g2 := g2.free; have a_g2 := fun o => (g2.alloc o).cell; have d_g2 := fun o o2 => ((g2.alloc o).alloc o2).cell; have e_g2 := fun o => (g2.alloc o).free; try clear c_g6 f_g6 a_g6 d_g6 e_g6
      replace g6 := g6.below b; have c_g6 := g6.cell; have f_g6 := g6.free; have a_g6 := fun o => (g6.alloc o).cell; have d_g6 := fun o o2 => ((g6.alloc o).alloc o2).cell; have e_g6 := fun o => (g6.alloc o).free; replace hm := hm.below b; replace hn := hn.below b; try clear c_g3 f_g3 a_g3 d_g3 e_g3
      replace g3 := g3.below b; have c_g3 := g3.cell; have f_g3 := g3.free; have a_g3 := fun o => (g3.alloc o).cell; have d_g3 := fun o o2 => ((g3.alloc o).alloc o2).cell; have e_g3 := fun o => (g3.alloc o).free; replace k1 := k1.below b; try clear c_g10 f_g10 a_g10 d_g10 e_g10
      replace g10 := g10.below b; have c_g10 := g10.cell; have f_g10 := g10.free; have a_g10 := fun o => (g10.alloc o).cell; have d_g10 := fun o o2 => ((g10.alloc o).alloc o2).cell; have e_g10 := fun o => (g10.alloc o).free; replace k2 := k2.below b; try clear c_g11 f_g11 a_g11 d_g11 e_g11
      replace g11 := g11.below b; have c_g11 := g11.cell; have f_g11 := g11.free; have a_g11 := fun o => (g11.alloc o).cell; have d_g11 := fun o o2 => ((g11.alloc o).alloc o2).cell; have e_g11 := fun o => (g11.alloc o).free; replace k3 := k3.below b; try clear c_g12 f_g12 a_g12 d_g12 e_g12
      replace g12 := g12.below b; have c_g12 := g12.cell; have f_g12 := g12.free; have a_g12 := fun o => (g12.alloc o).cell; have d_g12 := fun o o2 => ((g12.alloc o).alloc o2).cell; have e_g12 := fun o => (g12.alloc o).free; replace k4 := k4.below b; try clear c_g13 f_g13 a_g13 d_g13 e_g13
      replace g13 := g13.below b; have c_g13 := g13.cell; have f_g13 := g13.free; have a_g13 := fun o => (g13.alloc o).cell; have d_g13 := fun o o2 => ((g13.alloc o).alloc o2).cell; have e_g13 := fun o => (g13.alloc o).free; replace k5 := k5.below b; try clear c_g14 f_g14 a_g14 d_g14 e_g14
      replace g14 := g14.below b; have c_g14 := g14.cell; have f_g14 := g14.free; have a_g14 := fun o => (g14.alloc o).cell; have d_g14 := fun o o2 => ((g14.alloc o).alloc o2).cell; have e_g14 := fun o => (g14.alloc o).free; try clear c_g15 f_g15 a_g15 d_g15 e_g15
      replace g15 := g15.below b; have c_g15 := g15.cell; have f_g15 := g15.free; have a_g15 := fun o => (g15.alloc o).cell; have d_g15 := fun o o2 => ((g15.alloc o).alloc o2).cell; have e_g15 := fun o => (g15.alloc o).free; replace k6 := k6.below b; try clear c_g16 f_g16 a_g16 d_g16 e_g16
      replace g16 := g16.below b; have c_g16 := g16.cell; have f_g16 := g16.free; have a_g16 := fun o => (g16.alloc o).cell; have d_g16 := fun o o2 => ((g16.alloc o).alloc o2).cell; have e_g16 := fun o => (g16.alloc o).free; try clear c_g17 f_g17 a_g17 d_g17 e_g17
      replace g17 := g17.below b; have c_g17 := g17.cell; have f_g17 := g17.free; have a_g17 := fun o => (g17.alloc o).cell; have d_g17 := fun o o2 => ((g17.alloc o).alloc o2).cell; have e_g17 := fun o => (g17.alloc o).free; replace B := B.trans (b.mono B.size); clear b
      go_wp2_with fail
      refine (SM.out _ _ _ _ _ _ _ _ k5 k6).mono ?_
      rintro e wa39 ⟨rfl, b⟩
      try clear c_g1 f_g1 a_g1 d_g1 e_g1
      replace g1 := g1.below b; have c_g1 := g1.cell; have f_g1 := g1.free; have a_g1 := fun o => (g1.alloc o).cell; have d_g1 := fun o o2 => ((g1.alloc o).alloc o2).cell; have e_g1 := fun o => (g1.alloc o).free; try clear c_g2 f_g2 a_g2 d_g2 e_g2
      replace g2 := g2.below b; have c_g2 := g2.cell; have f_g2 := g2.free; have a_g2 := fun o => (g2.alloc o).cell; have d_g2 := fun o o2 => ((g2.alloc o).alloc o2).cell; have e_g2 := fun o => (g2.alloc o).free; try clear c_g6 f_g6 a_g6 d_g6 e_g6
      replace g6 := g6.below b; have c_g6 := g6.cell; have f_g6 := g6.free; have a_g6 := fun o => (g6.alloc o).cell; have d_g6 := fun o o2 => ((g6.alloc o).alloc o2).cell; have e_g6 := fun o => (g6.alloc o).free; replace hm := hm.below b; replace hn := hn.below b; try clear c_g3 f_g3 a_g3 d_g3 e_g3
      replace g3 := g3.below b; have c_g3 := g3.cell; have f_g3 := g3.free; have a_g3 := fun o => (g3.alloc o).cell; have d_g3 := fun o o2 => ((g3.alloc o).alloc o2).cell; have e_g3 := fun o => (g3.alloc o).free; replace k1 := k1.below b; try clear c_g10 f_g10 a_g10 d_g10 e_g10
      replace g10 := g10.below b; have c_g10 := g10.cell; have f_g10 := g10.free; have a_g10 := fun o => (g10.alloc o).cell; have d_g10 := fun o o2 => ((g10.alloc o).alloc o2).cell; have e_g10 := fun o => (g10.alloc o).free; replace k2 := k2.below b; try clear c_g11 f_g11 a_g11 d_g11 e_g11
      replace g11 := g11.below b; have c_g11 := g11.cell; have f_g11 := g11.free; have a_g11 := fun o => (g11.alloc o).cell; have d_g11 := fun o o2 => ((g11.alloc o).alloc o2).cell; have e_g11 := fun o => (g11.alloc o).free; replace k3 := k3.below b; try clear c_g12 f_g12 a_g12 d_g12 e_g12
      replace g12 := g12.below b; have c_g12 := g12.cell; have f_g12 := g12.free; have a_g12 := fun o => (g12.alloc o).cell; have d_g12 := fun o o2 => ((g12.alloc o).alloc o2).cell; have e_g12 := fun o => (g12.alloc o).free; replace k4 := k4.below b; try clear c_g13 f_g13 a_g13 d_g13 e_g13
      replace g13 := g13.below b; have c_g13 := g13.cell; have f_g13 := g13.free; have a_g13 := fun o => (g13.alloc o).cell; have d_g13 := fun o o2 => ((g13.alloc o).alloc o2).cell; have e_g13 := fun o => (g13.alloc o).free; replace k5 := k5.below b; try clear c_g14 f_g14 a_g14 d_g14 e_g14
      replace g14 := g14.below b; have c_g14 := g14.cell; have f_g14 := g14.free; have a_g14 := fun o => (g14.alloc o).cell; have d_g14 := fun o o2 => ((g14.alloc o).alloc o2).cell; have e_g14 := fun o => (g14.alloc o).free; try clear c_g15 f_g15 a_g15 d_g15 e_g15
      replace g15 := g15.below b; have c_g15 := g15.cell; have f_g15 := g15.free; have a_g15 := fun o => (g15.alloc o).cell; have d_g15 := fun o o2 => ((g15.alloc o).alloc o2).cell; have e_g15 := fun o => (g15.alloc o).free; replace k6 := k6.below b; try clear c_g16 f_g16 a_g16 d_g16 e_g16
      replace g16 := g16.below b; have c_g16 := g16.cell; have f_g16 := g16.free; have a_g16 := fun o => (g16.alloc o).cell; have d_g16 := fun o o2 => ((g16.alloc o).alloc o2).cell; have e_g16 := fun o => (g16.alloc o).free; try clear c_g17 f_g17 a_g17 d_g17 e_g17
      replace g17 := g17.below b; have c_g17 := g17.cell; have f_g17 := g17.free; have a_g17 := fun o => (g17.alloc o).cell; have d_g17 := fun o o2 => ((g17.alloc o).alloc o2).cell; have e_g17 := fun o => (g17.alloc o).free; replace B := B.trans (b.mono B.size); clear b
      go_wp2_with fail
      refine (SM.out _ _ _ _ _ _ _ _ hm hn).mono ?_
      rintro e wa40 ⟨rfl, b⟩
      try clear c_g1 f_g1 a_g1 d_g1 e_g1
      replace g1 := g1.below b; have c_g1 := g1.cell; have f_g1 := g1.free; have a_g1 := fun o => (g1.alloc o).cell; have d_g1 := fun o o2 => ((g1.alloc o).alloc o2).cell; have e_g1 := fun o => (g1.alloc o).free; try clear c_g2 f_g2 a_g2 d_g2 e_g2
      replace g2 := g2.below b; have c_g2 := g2.cell; have f_g2 := g2.free; have a_g2 := fun o => (g2.alloc o).cell; have d_g2 := fun o o2 => ((g2.alloc o).alloc o2).cell; have e_g2 := fun o => (g2.alloc o).free; try clear c_g6 f_g6 a_g6 d_g6 e_g6
      replace g6 := g6.below b; have c_g6 := g6.cell; have f_g6 := g6.free; have a_g6 := fun o => (g6.alloc o).cell; have d_g6 := fun o o2 => ((g6.alloc o).alloc o2).cell; have e_g6 := fun o => (g6.alloc o).free; replace hm := hm.below b; replace hn := hn.below b; try clear c_g3 f_g3 a_g3 d_g3 e_g3
      replace g3 := g3.below b; have c_g3 := g3.cell; have f_g3 := g3.free; have a_g3 := fun o => (g3.alloc o).cell; have d_g3 := fun o o2 => ((g3.alloc o).alloc o2).cell; have e_g3 := fun o => (g3.alloc o).free; replace k1 := k1.below b; try clear c_g10 f_g10 a_g10 d_g10 e_g10
      replace g10 := g10.below b; have c_g10 := g10.cell; have f_g10 := g10.free; have a_g10 := fun o => (g10.alloc o).cell; have d_g10 := fun o o2 => ((g10.alloc o).alloc o2).cell; have e_g10 := fun o => (g10.alloc o).free; replace k2 := k2.below b; try clear c_g11 f_g11 a_g11 d_g11 e_g11
      replace g11 := g11.below b; have c_g11 := g11.cell; have f_g11 := g11.free; have a_g11 := fun o => (g11.alloc o).cell; have d_g11 := fun o o2 => ((g11.alloc o).alloc o2).cell; have e_g11 := fun o => (g11.alloc o).free; replace k3 := k3.below b; try clear c_g12 f_g12 a_g12 d_g12 e_g12
      replace g12 := g12.below b; have c_g12 := g12.cell; have f_g12 := g12.free; have a_g12 := fun o => (g12.alloc o).cell; have d_g12 := fun o o2 => ((g12.alloc o).alloc o2).cell; have e_g12 := fun o => (g12.alloc o).free; replace k4 := k4.below b; try clear c_g13 f_g13 a_g13 d_g13 e_g13
      replace g13 := g13.below b; have c_g13 := g13.cell; have f_g13 := g13.free; have a_g13 := fun o => (g13.alloc o).cell; have d_g13 := fun o o2 => ((g13.alloc o).alloc o2).cell; have e_g13 := fun o => (g13.alloc o).free; replace k5 := k5.below b; try clear c_g14 f_g14 a_g14 d_g14 e_g14
      replace g14 := g14.below b; have c_g14 := g14.cell; have f_g14 := g14.free; have a_g14 := fun o => (g14.alloc o).cell; have d_g14 := fun o o2 => ((g14.alloc o).alloc o2).cell; have e_g14 := fun o => (g14.alloc o).free; try clear c_g15 f_g15 a_g15 d_g15 e_g15
      replace g15 := g15.below b; have c_g15 := g15.cell; have f_g15 := g15.free; have a_g15 := fun o => (g15.alloc o).cell; have d_g15 := fun o o2 => ((g15.alloc o).alloc o2).cell; have e_g15 := fun o => (g15.alloc o).free; replace k6 := k6.below b; try clear c_g16 f_g16 a_g16 d_g16 e_g16
      replace g16 := g16.below b; have c_g16 := g16.cell; have f_g16 := g16.free; have a_g16 := fun o => (g16.alloc o).cell; have d_g16 := fun o o2 => ((g16.alloc o).alloc o2).cell; have e_g16 := fun o => (g16.alloc o).free; try clear c_g17 f_g17 a_g17 d_g17 e_g17
      replace g17 := g17.below b; have c_g17 := g17.cell; have f_g17 := g17.free; have a_g17 := fun o => (g17.alloc o).cell; have d_g17 := fun o o2 => ((g17.alloc o).alloc o2).cell; have e_g17 := fun o => (g17.alloc o).free; replace B := B.trans (b.mono B.size); clear b
      go_wp2
      go_ret
      exact ⟨rfl, B⟩
  · clear hz h
    go_enter Try.func3, Try.ntmps3
    go_upto_region 1 with (fail)
    refine wp_gen (fun Wv => Bx Wv (w.heap.size) (26) (#[tv, ov, sv]) ∧ Bx Wv (w.heap.size + 1) (28) (#[.int .i64 a0, .int .i64 b0]) ∧ Bx Wv (w.heap.size + 1 + 1) (28) (#[.int .i64 a1, .int .i64 b1]) ∧ Below w.heap.size w Wv) ⟨((((Bx.at_ (by simp)).alloc _).alloc _)), (((Bx.at_ (by simp)).alloc _)), ((Bx.at_ (by simp))), ((((Below.refl _ w).alloc (by simp <;> omega) _).alloc (by simp <;> omega) _).alloc (by simp <;> omega) _)⟩ ?_
    rintro wa1 ⟨g1, g2, g6, b⟩
    replace hm := hm.below b; replace B := B.trans (b.mono B.size); clear b
    have c_g1 := g1.cell; have f_g1 := g1.free; have a_g1 := fun o => (g1.alloc o).cell; have d_g1 := fun o o2 => ((g1.alloc o).alloc o2).cell; have e_g1 := fun o => (g1.alloc o).free
    have c_g2 := g2.cell; have f_g2 := g2.free; have a_g2 := fun o => (g2.alloc o).cell; have d_g2 := fun o o2 => ((g2.alloc o).alloc o2).cell; have e_g2 := fun o => (g2.alloc o).free
    have c_g6 := g6.cell; have f_g6 := g6.free; have a_g6 := fun o => (g6.alloc o).cell; have d_g6 := fun o o2 => ((g6.alloc o).alloc o2).cell; have e_g6 := fun o => (g6.alloc o).free
    go_wp2_with fail
    refine (GT.out _ hm).mono ?_
    rintro e wa2 ⟨rfl, b⟩
    replace hm := hm.below b; try clear c_g1 f_g1 a_g1 d_g1 e_g1
    replace g1 := g1.below b; have c_g1 := g1.cell; have f_g1 := g1.free; have a_g1 := fun o => (g1.alloc o).cell; have d_g1 := fun o o2 => ((g1.alloc o).alloc o2).cell; have e_g1 := fun o => (g1.alloc o).free; try clear c_g2 f_g2 a_g2 d_g2 e_g2
    replace g2 := g2.below b; have c_g2 := g2.cell; have f_g2 := g2.free; have a_g2 := fun o => (g2.alloc o).cell; have d_g2 := fun o o2 => ((g2.alloc o).alloc o2).cell; have e_g2 := fun o => (g2.alloc o).free; try clear c_g6 f_g6 a_g6 d_g6 e_g6
    replace g6 := g6.below b; have c_g6 := g6.cell; have f_g6 := g6.free; have a_g6 := fun o => (g6.alloc o).cell; have d_g6 := fun o o2 => ((g6.alloc o).alloc o2).cell; have e_g6 := fun o => (g6.alloc o).free; replace B := B.trans (b.mono B.size); clear b
    go_wp2
    go_ret
    exact ⟨rfl, B⟩
end Go.Proofs.Ytgjpohhafmkhcaa
