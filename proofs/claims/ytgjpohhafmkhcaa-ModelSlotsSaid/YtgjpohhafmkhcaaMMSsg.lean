/- Contracts of the functions that the law 'ModelSlots' reaches, part 7. No condition. -/
import Derived.Test.YtgjpohhafmkhcaaMMSsf
set_option linter.unusedVariables false
set_option linter.unusedSimpArgs false
namespace Go.Proofs.Ytgjpohhafmkhcaa
open Go.RowKit L02 L13 L18 L20
theorem Canon20_no (tv ov sv : Value) (m : Mo) (r : Int) (hr : r = chk m) (hc : ¬ chk m = 0) (w : World) (h : Mod w tv ov sv m) :
    Calls Try.prog 22 #[.agg #[tv, ov, sv]] w fun e w' => ∃ t' o' s', e = .returned (.tuple #[.agg #[t', o', s'], .int .i64 r]) ∧ Mod w' t' o' s' .nil ∧ Below w.heap.size w w' := by
  have B : Below w.heap.size w w := Below.refl _ _
  have H := Lib.hid h
  have CT := Lib.hid (fun w h => Check20_any tv ov sv m r hr w h)
  have hne : (r != 0) = true := by rw [bne_iff_ne, hr]; exact hc
  clear hr hc h
  go_enter Try.func22, Try.ntmps22
  go_upto_region 1 with (fail)
  refine wp_gen (fun Wv => Bx Wv (w.heap.size) (26) (#[tv, ov, sv]) ∧ Bx Wv (w.heap.size + 1) (26) (#[.slice none 0 0, .slice none 0 0, .slice none 0 0]) ∧ Below w.heap.size w Wv) ⟨(((Bx.at_ (by simp)).alloc _)), ((Bx.at_ (by simp))), (((Below.refl _ w).alloc (by simp <;> omega) _).alloc (by simp <;> omega) _)⟩ ?_
  rintro wa1 ⟨g1, g2, b⟩
  replace B := B.trans (b.mono B.size); clear b
  have c_g1 := g1.cell; have f_g1 := g1.free; have a_g1 := fun o => (g1.alloc o).cell; have d_g1 := fun o o2 => ((g1.alloc o).alloc o2).cell; have e_g1 := fun o => (g1.alloc o).free
  have c_g2 := g2.cell; have f_g2 := g2.free; have a_g2 := fun o => (g2.alloc o).cell; have d_g2 := fun o o2 => ((g2.alloc o).alloc o2).cell; have e_g2 := fun o => (g2.alloc o).free
  go_wp2_with fail
  refine (CT.out _ (H.out.below B)).mono ?_
  rintro e wa2 ⟨rfl, b⟩
  try clear c_g1 f_g1 a_g1 d_g1 e_g1
  replace g1 := g1.below b; have c_g1 := g1.cell; have f_g1 := g1.free; have a_g1 := fun o => (g1.alloc o).cell; have d_g1 := fun o o2 => ((g1.alloc o).alloc o2).cell; have e_g1 := fun o => (g1.alloc o).free; try clear c_g2 f_g2 a_g2 d_g2 e_g2
  replace g2 := g2.below b; have c_g2 := g2.cell; have f_g2 := g2.free; have a_g2 := fun o => (g2.alloc o).cell; have d_g2 := fun o o2 => ((g2.alloc o).alloc o2).cell; have e_g2 := fun o => (g2.alloc o).free; replace B := B.trans (b.mono B.size); clear b
  go_wp2
  refine bodyPost_ret (v := .tuple #[.agg #[.slice none 0 0, .slice none 0 0, .slice none 0 0], .int .i64 r]) (by simp [results, Try.results22, go_sem, c_g2, f_g2]) rfl ?_
  refine ⟨_, _, _, rfl, Mod.nil _, ?_⟩
  (repeat (first | refine Below.setCell ?_ (by first | exact Nat.le_refl _ | (simp <;> omega)) _ | refine Below.alloc ?_ (by first | exact B.size | (have := B.size; simp <;> omega)) _)); exact B
theorem CanonR20_no (tv ov sv : Value) (m : Mo) (r : Int) (hr : r = chk m) (hc : ¬ chk m = 0) (w : World) (h : Mod w tv ov sv m) :
    Calls Try.prog 32 #[.agg #[tv, ov, sv]] w fun e w' => ∃ t' o' s', e = .returned (.tuple #[.agg #[t', o', s'], .int .i64 r]) ∧ Mod w' t' o' s' .nil ∧ Below w.heap.size w w' := by
  have B : Below w.heap.size w w := Below.refl _ _
  have H := Lib.hid h
  have CT := Lib.hid (fun w h => CheckR20_any tv ov sv m r hr w h)
  have hne : (r != 0) = true := by rw [bne_iff_ne, hr]; exact hc
  clear hr hc h
  go_enter Try.func32, Try.ntmps32
  go_upto_region 1 with (fail)
  refine wp_gen (fun Wv => Bx Wv (w.heap.size) (26) (#[tv, ov, sv]) ∧ Bx Wv (w.heap.size + 1) (26) (#[.slice none 0 0, .slice none 0 0, .slice none 0 0]) ∧ Below w.heap.size w Wv) ⟨(((Bx.at_ (by simp)).alloc _)), ((Bx.at_ (by simp))), (((Below.refl _ w).alloc (by simp <;> omega) _).alloc (by simp <;> omega) _)⟩ ?_
  rintro wa1 ⟨g1, g2, b⟩
  replace B := B.trans (b.mono B.size); clear b
  have c_g1 := g1.cell; have f_g1 := g1.free; have a_g1 := fun o => (g1.alloc o).cell; have d_g1 := fun o o2 => ((g1.alloc o).alloc o2).cell; have e_g1 := fun o => (g1.alloc o).free
  have c_g2 := g2.cell; have f_g2 := g2.free; have a_g2 := fun o => (g2.alloc o).cell; have d_g2 := fun o o2 => ((g2.alloc o).alloc o2).cell; have e_g2 := fun o => (g2.alloc o).free
  go_wp2_with fail
  refine (CT.out _ (H.out.below B)).mono ?_
  rintro e wa2 ⟨rfl, b⟩
  try clear c_g1 f_g1 a_g1 d_g1 e_g1
  replace g1 := g1.below b; have c_g1 := g1.cell; have f_g1 := g1.free; have a_g1 := fun o => (g1.alloc o).cell; have d_g1 := fun o o2 => ((g1.alloc o).alloc o2).cell; have e_g1 := fun o => (g1.alloc o).free; try clear c_g2 f_g2 a_g2 d_g2 e_g2
  replace g2 := g2.below b; have c_g2 := g2.cell; have f_g2 := g2.free; have a_g2 := fun o => (g2.alloc o).cell; have d_g2 := fun o o2 => ((g2.alloc o).alloc o2).cell; have e_g2 := fun o => (g2.alloc o).free; replace B := B.trans (b.mono B.size); clear b
  go_wp2
  refine bodyPost_ret (v := .tuple #[.agg #[.slice none 0 0, .slice none 0 0, .slice none 0 0], .int .i64 r]) (by simp [results, Try.results32, go_sem, c_g2, f_g2]) rfl ?_
  refine ⟨_, _, _, rfl, Mod.nil _, ?_⟩
  (repeat (first | refine Below.setCell ?_ (by first | exact Nat.le_refl _ | (simp <;> omega)) _ | refine Below.alloc ?_ (by first | exact B.size | (have := B.size; simp <;> omega)) _)); exact B
/-- the canon of a model: one of two ways -/
theorem canon_way (m : Mo) : ∃ (M : Mo) (r : Int), (∀ (tv ov sv : Value) (w : World), Mod w tv ov sv m → Calls Try.prog 22 #[.agg #[tv, ov, sv]] w fun e w' => ∃ t' o' s', e = .returned (.tuple #[.agg #[t', o', s'], .int .i64 r]) ∧ Mod w' t' o' s' M ∧ Below w.heap.size w w') ∧
    (∀ (tv ov sv : Value) (w : World), Mod w tv ov sv m → Calls Try.prog 32 #[.agg #[tv, ov, sv]] w fun e w' => ∃ t' o' s', e = .returned (.tuple #[.agg #[t', o', s'], .int .i64 r]) ∧ Mod w' t' o' s' M ∧ Below w.heap.size w w') ∧ r = chk m ∧
    (chk m = 0 → ∃ out, Rs m [] (roots m) out ∧ M = canM m out) := by
  by_cases hc : chk m = 0
  · obtain ⟨out, ho⟩ := reach_ex hc
    exact ⟨canM m out, 0, fun t o s w h => Canon20_any t o s m hc out ho w h, fun t o s w h => CanonR20_any t o s m hc out ho w h, hc.symm, fun _ => ⟨out, ho, rfl⟩⟩
  · exact ⟨.nil, chk m, fun t o s w h => Canon20_no t o s m _ rfl hc w h, fun t o s w h => CanonR20_no t o s m _ rfl hc w h, rfl, fun h => absurd h hc⟩
set_option maxRecDepth 100000 in
set_option maxHeartbeats 16000000 in
theorem ModelSlots_walk (tv ov sv : Value) (m : Mo) (a0 b0 : Int) (ti : Int) (w : World) (h : Mod w tv ov sv m) (_f1 : -9223372036854775808 ≤ a0 ∧ a0 ≤ 9223372036854775807) (_f2 : -9223372036854775808 ≤ b0 ∧ b0 ≤ 9223372036854775807) (_f3 : -9223372036854775808 ≤ ti ∧ ti ≤ 9223372036854775807) :
    Calls Try.prog 5 #[.agg #[tv, ov, sv], .agg #[.int .i64 a0, .int .i64 b0], .int .i64 ti] w fun e w' => e = .returned (.bool true) ∧ Below w.heap.size w w' := by
  have B : Below w.heap.size w w := Below.refl _ _
  have hm := h
  obtain ⟨z, hz⟩ : ∃ z, z = decide (Great m) := ⟨_, rfl⟩
  have GT := Lib.hid (fun w h => Great20_any tv ov sv m z hz w h)
  clear _f1 _f2 _f3
  cases z
  · have hng : ¬ Great m := by rw [eq_comm, decide_eq_false_iff_not] at hz; exact hz
    have TT := Lib.hid (fun w h => Twin_any tv ov sv m (small_of hng (by unfold Great at hng; omega)) w h)
    obtain ⟨M1, hM1⟩ : ∃ v, v = allM m ti := ⟨_, rfl⟩
    obtain ⟨r1, hr1⟩ : ∃ v, v = allE m ti := ⟨_, rfl⟩
    obtain ⟨hs1, hh1⟩ : ∃ v, v = allS m ti := ⟨_, rfl⟩
    obtain ⟨hg1, hh2⟩ : ∃ v, v = allG m ti := ⟨_, rfl⟩
    obtain ⟨M2, hM2⟩ : ∃ v, v = dropM m a0 b0 := ⟨_, rfl⟩
    obtain ⟨r2, hr2⟩ : ∃ v, v = asked m a0 b0 := ⟨_, rfl⟩
    obtain ⟨M3, hM3⟩ : ∃ v, v = freeM m a0 b0 := ⟨_, rfl⟩
    obtain ⟨r3, hr3⟩ : ∃ v, v = freeE m a0 b0 := ⟨_, rfl⟩
    obtain ⟨M4, r4, hcA, hcB, _, _⟩ := canon_way m
    obtain ⟨r5, hr5⟩ : ∃ v, v = chk m := ⟨_, rfl⟩
    have LA := Lib.hid (fun t o s w h => Alloc20_any t o s m ti M1 r1 hs1 hg1 hM1 hr1 hh1 hh2 w h)
    have LB := Lib.hid (fun t o s w h => AllocR20_any t o s m ti M1 r1 hs1 hg1 hM1 hr1 hh1 hh2 w h)
    have DA := Lib.hid (fun t o s w h => Drop20_any t o s m a0 b0 M2 r2 hM2 hr2 w h)
    have DB := Lib.hid (fun t o s w h => DropR20_any t o s m a0 b0 M2 r2 hM2 hr2 w h)
    have FA := Lib.hid (fun t o s w h => Free20_any t o s m a0 b0 M3 r3 hM3 hr3 w h)
    have FB := Lib.hid (fun t o s w h => FreeR20_any t o s m a0 b0 M3 r3 hM3 hr3 w h)
    have CA := Lib.hid hcA; have CB := Lib.hid hcB
    have KA := Lib.hid (fun t o s w h => Check20_any t o s m r5 hr5 w h)
    have KB := Lib.hid (fun t o s w h => CheckR20_any t o s m r5 hr5 w h)
    have SM := Lib.hid (fun ta oa sa tb ob sb (a : Mo) w ha hb => Same20_any ta oa sa tb ob sb a a true (by simp) w ha hb)
    have hq := fun W => hdl_eql hs1 hg1 W
    clear hz hng hM1 hr1 hh1 hh2 hM2 hr2 hM3 hr3 hcA hcB hr5 h
    go_enter Try.func5, Try.ntmps5
    go_upto_region 1 with (fail)
    refine wp_gen (fun Wv => Bx Wv (w.heap.size) (26) (#[tv, ov, sv]) ∧ Bx Wv (w.heap.size + 1) (28) (#[.int .i64 a0, .int .i64 b0]) ∧ Below w.heap.size w Wv) ⟨(((Bx.at_ (by simp)).alloc _)), ((Bx.at_ (by simp))), (((Below.refl _ w).alloc (by simp <;> omega) _).alloc (by simp <;> omega) _)⟩ ?_
    rintro wa1 ⟨g1, g2, b⟩
    replace hm := hm.below b; replace B := B.trans (b.mono B.size); clear b
    have c_g1 := g1.cell; have f_g1 := g1.free; have a_g1 := fun o => (g1.alloc o).cell; have d_g1 := fun o o2 => ((g1.alloc o).alloc o2).cell; have e_g1 := fun o => (g1.alloc o).free
    have c_g2 := g2.cell; have f_g2 := g2.free; have a_g2 := fun o => (g2.alloc o).cell; have d_g2 := fun o o2 => ((g2.alloc o).alloc o2).cell; have e_g2 := fun o => (g2.alloc o).free
    go_wp2_with fail
    refine (GT.out _ hm).mono ?_
    rintro e wa2 ⟨rfl, b⟩
    replace hm := hm.below b; try clear c_g1 f_g1 a_g1 d_g1 e_g1
    replace g1 := g1.below b; have c_g1 := g1.cell; have f_g1 := g1.free; have a_g1 := fun o => (g1.alloc o).cell; have d_g1 := fun o o2 => ((g1.alloc o).alloc o2).cell; have e_g1 := fun o => (g1.alloc o).free; try clear c_g2 f_g2 a_g2 d_g2 e_g2
    replace g2 := g2.below b; have c_g2 := g2.cell; have f_g2 := g2.free; have a_g2 := fun o => (g2.alloc o).cell; have d_g2 := fun o o2 => ((g2.alloc o).alloc o2).cell; have e_g2 := fun o => (g2.alloc o).free; replace B := B.trans (b.mono B.size); clear b
    go_wp2_with fail
    refine (TT.out _ hm).mono ?_
    rintro e wa3 ⟨t', o', s', rfl, om, b⟩
    replace hm := hm.below b; try clear c_g1 f_g1 a_g1 d_g1 e_g1
    replace g1 := g1.below b; have c_g1 := g1.cell; have f_g1 := g1.free; have a_g1 := fun o => (g1.alloc o).cell; have d_g1 := fun o o2 => ((g1.alloc o).alloc o2).cell; have e_g1 := fun o => (g1.alloc o).free; try clear c_g2 f_g2 a_g2 d_g2 e_g2
    replace g2 := g2.below b; have c_g2 := g2.cell; have f_g2 := g2.free; have a_g2 := fun o => (g2.alloc o).cell; have d_g2 := fun o o2 => ((g2.alloc o).alloc o2).cell; have e_g2 := fun o => (g2.alloc o).free; replace B := B.trans (b.mono B.size); clear b
    have hn := om.rd
    obtain ⟨⟨tA, tn, tc, rfl⟩, ⟨oA, on, oc, rfl⟩, ⟨sA, sn, sc, rfl⟩⟩ := hn.forms
    clear om
    go_upto_region 4 with (fail)
    refine wp_gen (fun Wv => Bx Wv (wa3.heap.size) (26) (#[.slice tA tn tc, .slice oA on oc, .slice sA sn sc]) ∧ Below wa3.heap.size wa3 Wv) ⟨((Bx.at_ (by simp))), ((Below.refl _ wa3).alloc (by simp <;> omega) _)⟩ ?_
    rintro wa4 ⟨g3, b⟩
    try clear c_g1 f_g1 a_g1 d_g1 e_g1
    replace g1 := g1.below b; have c_g1 := g1.cell; have f_g1 := g1.free; have a_g1 := fun o => (g1.alloc o).cell; have d_g1 := fun o o2 => ((g1.alloc o).alloc o2).cell; have e_g1 := fun o => (g1.alloc o).free; try clear c_g2 f_g2 a_g2 d_g2 e_g2
    replace g2 := g2.below b; have c_g2 := g2.cell; have f_g2 := g2.free; have a_g2 := fun o => (g2.alloc o).cell; have d_g2 := fun o o2 => ((g2.alloc o).alloc o2).cell; have e_g2 := fun o => (g2.alloc o).free; replace hm := hm.below b; replace hn := hn.below b; replace B := B.trans (b.mono B.size); clear b
    have c_g3 := g3.cell; have f_g3 := g3.free; have a_g3 := fun o => (g3.alloc o).cell; have d_g3 := fun o o2 => ((g3.alloc o).alloc o2).cell; have e_g3 := fun o => (g3.alloc o).free
    go_wp2_with fail
    refine (LA.out _ _ _ _ hm).mono ?_
    rintro e wa5 ⟨t1, o1, s1, rfl, k1, b⟩
    try clear c_g1 f_g1 a_g1 d_g1 e_g1
    replace g1 := g1.below b; have c_g1 := g1.cell; have f_g1 := g1.free; have a_g1 := fun o => (g1.alloc o).cell; have d_g1 := fun o o2 => ((g1.alloc o).alloc o2).cell; have e_g1 := fun o => (g1.alloc o).free; try clear c_g2 f_g2 a_g2 d_g2 e_g2
    replace g2 := g2.below b; have c_g2 := g2.cell; have f_g2 := g2.free; have a_g2 := fun o => (g2.alloc o).cell; have d_g2 := fun o o2 => ((g2.alloc o).alloc o2).cell; have e_g2 := fun o => (g2.alloc o).free; replace hm := hm.below b; replace hn := hn.below b; try clear c_g3 f_g3 a_g3 d_g3 e_g3
    replace g3 := g3.below b; have c_g3 := g3.cell; have f_g3 := g3.free; have a_g3 := fun o => (g3.alloc o).cell; have d_g3 := fun o o2 => ((g3.alloc o).alloc o2).cell; have e_g3 := fun o => (g3.alloc o).free; replace B := B.trans (b.mono B.size); clear b
    obtain ⟨⟨t1A, t1n, t1c, rfl⟩, ⟨o1A, o1n, o1c, rfl⟩, ⟨s1A, s1n, s1c, rfl⟩⟩ := k1.forms
    go_upto_region 5 with (fail)
    refine wp_gen (fun Wv => Bx Wv (wa5.heap.size) (26) (#[.slice t1A t1n t1c, .slice o1A o1n o1c, .slice s1A s1n s1c]) ∧ Bx Wv (wa5.heap.size + 1) (28) (#[.int .i64 hs1, .int .i64 hg1]) ∧ Below wa5.heap.size wa5 Wv) ⟨(((Bx.at_ (by simp)).alloc _)), ((Bx.at_ (by simp))), (((Below.refl _ wa5).alloc (by simp <;> omega) _).alloc (by simp <;> omega) _)⟩ ?_
    rintro wa6 ⟨g10, g11, b⟩
    try clear c_g1 f_g1 a_g1 d_g1 e_g1
    replace g1 := g1.below b; have c_g1 := g1.cell; have f_g1 := g1.free; have a_g1 := fun o => (g1.alloc o).cell; have d_g1 := fun o o2 => ((g1.alloc o).alloc o2).cell; have e_g1 := fun o => (g1.alloc o).free; try clear c_g2 f_g2 a_g2 d_g2 e_g2
    replace g2 := g2.below b; have c_g2 := g2.cell; have f_g2 := g2.free; have a_g2 := fun o => (g2.alloc o).cell; have d_g2 := fun o o2 => ((g2.alloc o).alloc o2).cell; have e_g2 := fun o => (g2.alloc o).free; replace hm := hm.below b; replace hn := hn.below b; try clear c_g3 f_g3 a_g3 d_g3 e_g3
    replace g3 := g3.below b; have c_g3 := g3.cell; have f_g3 := g3.free; have a_g3 := fun o => (g3.alloc o).cell; have d_g3 := fun o o2 => ((g3.alloc o).alloc o2).cell; have e_g3 := fun o => (g3.alloc o).free; replace k1 := k1.below b; replace B := B.trans (b.mono B.size); clear b
    have c_g10 := g10.cell; have f_g10 := g10.free; have a_g10 := fun o => (g10.alloc o).cell; have d_g10 := fun o o2 => ((g10.alloc o).alloc o2).cell; have e_g10 := fun o => (g10.alloc o).free
    have c_g11 := g11.cell; have f_g11 := g11.free; have a_g11 := fun o => (g11.alloc o).cell; have d_g11 := fun o o2 => ((g11.alloc o).alloc o2).cell; have e_g11 := fun o => (g11.alloc o).free
    go_wp2_with fail
    refine (LB.out _ _ _ _ hn).mono ?_
    rintro e wa7 ⟨t2, o2, s2, rfl, k2, b⟩
    try clear c_g1 f_g1 a_g1 d_g1 e_g1
    replace g1 := g1.below b; have c_g1 := g1.cell; have f_g1 := g1.free; have a_g1 := fun o => (g1.alloc o).cell; have d_g1 := fun o o2 => ((g1.alloc o).alloc o2).cell; have e_g1 := fun o => (g1.alloc o).free; try clear c_g2 f_g2 a_g2 d_g2 e_g2
    replace g2 := g2.below b; have c_g2 := g2.cell; have f_g2 := g2.free; have a_g2 := fun o => (g2.alloc o).cell; have d_g2 := fun o o2 => ((g2.alloc o).alloc o2).cell; have e_g2 := fun o => (g2.alloc o).free; replace hm := hm.below b; replace hn := hn.below b; try clear c_g3 f_g3 a_g3 d_g3 e_g3
    replace g3 := g3.below b; have c_g3 := g3.cell; have f_g3 := g3.free; have a_g3 := fun o => (g3.alloc o).cell; have d_g3 := fun o o2 => ((g3.alloc o).alloc o2).cell; have e_g3 := fun o => (g3.alloc o).free; replace k1 := k1.below b; try clear c_g10 f_g10 a_g10 d_g10 e_g10
    replace g10 := g10.below b; have c_g10 := g10.cell; have f_g10 := g10.free; have a_g10 := fun o => (g10.alloc o).cell; have d_g10 := fun o o2 => ((g10.alloc o).alloc o2).cell; have e_g10 := fun o => (g10.alloc o).free; try clear c_g11 f_g11 a_g11 d_g11 e_g11
    replace g11 := g11.below b; have c_g11 := g11.cell; have f_g11 := g11.free; have a_g11 := fun o => (g11.alloc o).cell; have d_g11 := fun o o2 => ((g11.alloc o).alloc o2).cell; have e_g11 := fun o => (g11.alloc o).free; replace B := B.trans (b.mono B.size); clear b
    obtain ⟨⟨t2A, t2n, t2c, rfl⟩, ⟨o2A, o2n, o2c, rfl⟩, ⟨s2A, s2n, s2c, rfl⟩⟩ := k2.forms
    go_upto_region 6 with (fail)
    refine wp_gen (fun Wv => Bx Wv (wa7.heap.size) (26) (#[.slice t2A t2n t2c, .slice o2A o2n o2c, .slice s2A s2n s2c]) ∧ Bx Wv (wa7.heap.size + 1) (28) (#[.int .i64 hs1, .int .i64 hg1]) ∧ Below wa7.heap.size wa7 Wv) ⟨(((Bx.at_ (by simp)).alloc _)), ((Bx.at_ (by simp))), (((Below.refl _ wa7).alloc (by simp <;> omega) _).alloc (by simp <;> omega) _)⟩ ?_
    rintro wa8 ⟨g12, g13, b⟩
    try clear c_g1 f_g1 a_g1 d_g1 e_g1
    replace g1 := g1.below b; have c_g1 := g1.cell; have f_g1 := g1.free; have a_g1 := fun o => (g1.alloc o).cell; have d_g1 := fun o o2 => ((g1.alloc o).alloc o2).cell; have e_g1 := fun o => (g1.alloc o).free; try clear c_g2 f_g2 a_g2 d_g2 e_g2
    replace g2 := g2.below b; have c_g2 := g2.cell; have f_g2 := g2.free; have a_g2 := fun o => (g2.alloc o).cell; have d_g2 := fun o o2 => ((g2.alloc o).alloc o2).cell; have e_g2 := fun o => (g2.alloc o).free; replace hm := hm.below b; replace hn := hn.below b; try clear c_g3 f_g3 a_g3 d_g3 e_g3
    replace g3 := g3.below b; have c_g3 := g3.cell; have f_g3 := g3.free; have a_g3 := fun o => (g3.alloc o).cell; have d_g3 := fun o o2 => ((g3.alloc o).alloc o2).cell; have e_g3 := fun o => (g3.alloc o).free; replace k1 := k1.below b; try clear c_g10 f_g10 a_g10 d_g10 e_g10
    replace g10 := g10.below b; have c_g10 := g10.cell; have f_g10 := g10.free; have a_g10 := fun o => (g10.alloc o).cell; have d_g10 := fun o o2 => ((g10.alloc o).alloc o2).cell; have e_g10 := fun o => (g10.alloc o).free; try clear c_g11 f_g11 a_g11 d_g11 e_g11
    replace g11 := g11.below b; have c_g11 := g11.cell; have f_g11 := g11.free; have a_g11 := fun o => (g11.alloc o).cell; have d_g11 := fun o o2 => ((g11.alloc o).alloc o2).cell; have e_g11 := fun o => (g11.alloc o).free; replace k2 := k2.below b; replace B := B.trans (b.mono B.size); clear b
    have c_g12 := g12.cell; have f_g12 := g12.free; have a_g12 := fun o => (g12.alloc o).cell; have d_g12 := fun o o2 => ((g12.alloc o).alloc o2).cell; have e_g12 := fun o => (g12.alloc o).free
    have c_g13 := g13.cell; have f_g13 := g13.free; have a_g13 := fun o => (g13.alloc o).cell; have d_g13 := fun o o2 => ((g13.alloc o).alloc o2).cell; have e_g13 := fun o => (g13.alloc o).free
    go_wp2_with fail
    refine (DA.out _ _ _ _ hm).mono ?_
    rintro e wa9 ⟨t3, o3, s3, rfl, k3, b⟩
    try clear c_g1 f_g1 a_g1 d_g1 e_g1
    replace g1 := g1.below b; have c_g1 := g1.cell; have f_g1 := g1.free; have a_g1 := fun o => (g1.alloc o).cell; have d_g1 := fun o o2 => ((g1.alloc o).alloc o2).cell; have e_g1 := fun o => (g1.alloc o).free; try clear c_g2 f_g2 a_g2 d_g2 e_g2
    replace g2 := g2.below b; have c_g2 := g2.cell; have f_g2 := g2.free; have a_g2 := fun o => (g2.alloc o).cell; have d_g2 := fun o o2 => ((g2.alloc o).alloc o2).cell; have e_g2 := fun o => (g2.alloc o).free; replace hm := hm.below b; replace hn := hn.below b; try clear c_g3 f_g3 a_g3 d_g3 e_g3
    replace g3 := g3.below b; have c_g3 := g3.cell; have f_g3 := g3.free; have a_g3 := fun o => (g3.alloc o).cell; have d_g3 := fun o o2 => ((g3.alloc o).alloc o2).cell; have e_g3 := fun o => (g3.alloc o).free; replace k1 := k1.below b; try clear c_g10 f_g10 a_g10 d_g10 e_g10
    replace g10 := g10.below b; have c_g10 := g10.cell; have f_g10 := g10.free; have a_g10 := fun o => (g10.alloc o).cell; have d_g10 := fun o o2 => ((g10.alloc o).alloc o2).cell; have e_g10 := fun o => (g10.alloc o).free; try clear c_g11 f_g11 a_g11 d_g11 e_g11
    replace g11 := g11.below b; have c_g11 := g11.cell; have f_g11 := g11.free; have a_g11 := fun o => (g11.alloc o).cell; have d_g11 := fun o o2 => ((g11.alloc o).alloc o2).cell; have e_g11 := fun o => (g11.alloc o).free; replace k2 := k2.below b; try clear c_g12 f_g12 a_g12 d_g12 e_g12
    replace g12 := g12.below b; have c_g12 := g12.cell; have f_g12 := g12.free; have a_g12 := fun o => (g12.alloc o).cell; have d_g12 := fun o o2 => ((g12.alloc o).alloc o2).cell; have e_g12 := fun o => (g12.alloc o).free; try clear c_g13 f_g13 a_g13 d_g13 e_g13
    replace g13 := g13.below b; have c_g13 := g13.cell; have f_g13 := g13.free; have a_g13 := fun o => (g13.alloc o).cell; have d_g13 := fun o o2 => ((g13.alloc o).alloc o2).cell; have e_g13 := fun o => (g13.alloc o).free; replace B := B.trans (b.mono B.size); clear b
    obtain ⟨⟨t3A, t3n, t3c, rfl⟩, ⟨o3A, o3n, o3c, rfl⟩, ⟨s3A, s3n, s3c, rfl⟩⟩ := k3.forms
    go_upto_region 7 with (fail)
    refine wp_gen (fun Wv => Bx Wv (wa9.heap.size) (26) (#[.slice t3A t3n t3c, .slice o3A o3n o3c, .slice s3A s3n s3c]) ∧ Below wa9.heap.size wa9 Wv) ⟨((Bx.at_ (by simp))), ((Below.refl _ wa9).alloc (by simp <;> omega) _)⟩ ?_
    rintro wa10 ⟨g14, b⟩
    try clear c_g1 f_g1 a_g1 d_g1 e_g1
    replace g1 := g1.below b; have c_g1 := g1.cell; have f_g1 := g1.free; have a_g1 := fun o => (g1.alloc o).cell; have d_g1 := fun o o2 => ((g1.alloc o).alloc o2).cell; have e_g1 := fun o => (g1.alloc o).free; try clear c_g2 f_g2 a_g2 d_g2 e_g2
    replace g2 := g2.below b; have c_g2 := g2.cell; have f_g2 := g2.free; have a_g2 := fun o => (g2.alloc o).cell; have d_g2 := fun o o2 => ((g2.alloc o).alloc o2).cell; have e_g2 := fun o => (g2.alloc o).free; replace hm := hm.below b; replace hn := hn.below b; try clear c_g3 f_g3 a_g3 d_g3 e_g3
    replace g3 := g3.below b; have c_g3 := g3.cell; have f_g3 := g3.free; have a_g3 := fun o => (g3.alloc o).cell; have d_g3 := fun o o2 => ((g3.alloc o).alloc o2).cell; have e_g3 := fun o => (g3.alloc o).free; replace k1 := k1.below b; try clear c_g10 f_g10 a_g10 d_g10 e_g10
    replace g10 := g10.below b; have c_g10 := g10.cell; have f_g10 := g10.free; have a_g10 := fun o => (g10.alloc o).cell; have d_g10 := fun o o2 => ((g10.alloc o).alloc o2).cell; have e_g10 := fun o => (g10.alloc o).free; try clear c_g11 f_g11 a_g11 d_g11 e_g11
    replace g11 := g11.below b; have c_g11 := g11.cell; have f_g11 := g11.free; have a_g11 := fun o => (g11.alloc o).cell; have d_g11 := fun o o2 => ((g11.alloc o).alloc o2).cell; have e_g11 := fun o => (g11.alloc o).free; replace k2 := k2.below b; try clear c_g12 f_g12 a_g12 d_g12 e_g12
    replace g12 := g12.below b; have c_g12 := g12.cell; have f_g12 := g12.free; have a_g12 := fun o => (g12.alloc o).cell; have d_g12 := fun o o2 => ((g12.alloc o).alloc o2).cell; have e_g12 := fun o => (g12.alloc o).free; try clear c_g13 f_g13 a_g13 d_g13 e_g13
    replace g13 := g13.below b; have c_g13 := g13.cell; have f_g13 := g13.free; have a_g13 := fun o => (g13.alloc o).cell; have d_g13 := fun o o2 => ((g13.alloc o).alloc o2).cell; have e_g13 := fun o => (g13.alloc o).free; replace k3 := k3.below b; replace B := B.trans (b.mono B.size); clear b
    have c_g14 := g14.cell; have f_g14 := g14.free; have a_g14 := fun o => (g14.alloc o).cell; have d_g14 := fun o o2 => ((g14.alloc o).alloc o2).cell; have e_g14 := fun o => (g14.alloc o).free
    go_wp2_with fail
    refine (DB.out _ _ _ _ hn).mono ?_
    rintro e wa11 ⟨t4, o4, s4, rfl, k4, b⟩
    try clear c_g1 f_g1 a_g1 d_g1 e_g1
    replace g1 := g1.below b; have c_g1 := g1.cell; have f_g1 := g1.free; have a_g1 := fun o => (g1.alloc o).cell; have d_g1 := fun o o2 => ((g1.alloc o).alloc o2).cell; have e_g1 := fun o => (g1.alloc o).free; try clear c_g2 f_g2 a_g2 d_g2 e_g2
    replace g2 := g2.below b; have c_g2 := g2.cell; have f_g2 := g2.free; have a_g2 := fun o => (g2.alloc o).cell; have d_g2 := fun o o2 => ((g2.alloc o).alloc o2).cell; have e_g2 := fun o => (g2.alloc o).free; replace hm := hm.below b; replace hn := hn.below b; try clear c_g3 f_g3 a_g3 d_g3 e_g3
    replace g3 := g3.below b; have c_g3 := g3.cell; have f_g3 := g3.free; have a_g3 := fun o => (g3.alloc o).cell; have d_g3 := fun o o2 => ((g3.alloc o).alloc o2).cell; have e_g3 := fun o => (g3.alloc o).free; replace k1 := k1.below b; try clear c_g10 f_g10 a_g10 d_g10 e_g10
    replace g10 := g10.below b; have c_g10 := g10.cell; have f_g10 := g10.free; have a_g10 := fun o => (g10.alloc o).cell; have d_g10 := fun o o2 => ((g10.alloc o).alloc o2).cell; have e_g10 := fun o => (g10.alloc o).free; try clear c_g11 f_g11 a_g11 d_g11 e_g11
    replace g11 := g11.below b; have c_g11 := g11.cell; have f_g11 := g11.free; have a_g11 := fun o => (g11.alloc o).cell; have d_g11 := fun o o2 => ((g11.alloc o).alloc o2).cell; have e_g11 := fun o => (g11.alloc o).free; replace k2 := k2.below b; try clear c_g12 f_g12 a_g12 d_g12 e_g12
    replace g12 := g12.below b; have c_g12 := g12.cell; have f_g12 := g12.free; have a_g12 := fun o => (g12.alloc o).cell; have d_g12 := fun o o2 => ((g12.alloc o).alloc o2).cell; have e_g12 := fun o => (g12.alloc o).free; try clear c_g13 f_g13 a_g13 d_g13 e_g13
    replace g13 := g13.below b; have c_g13 := g13.cell; have f_g13 := g13.free; have a_g13 := fun o => (g13.alloc o).cell; have d_g13 := fun o o2 => ((g13.alloc o).alloc o2).cell; have e_g13 := fun o => (g13.alloc o).free; replace k3 := k3.below b; try clear c_g14 f_g14 a_g14 d_g14 e_g14
    replace g14 := g14.below b; have c_g14 := g14.cell; have f_g14 := g14.free; have a_g14 := fun o => (g14.alloc o).cell; have d_g14 := fun o o2 => ((g14.alloc o).alloc o2).cell; have e_g14 := fun o => (g14.alloc o).free; replace B := B.trans (b.mono B.size); clear b
    obtain ⟨⟨t4A, t4n, t4c, rfl⟩, ⟨o4A, o4n, o4c, rfl⟩, ⟨s4A, s4n, s4c, rfl⟩⟩ := k4.forms
    go_upto_region 8 with (fail)
    refine wp_gen (fun Wv => Bx Wv (wa11.heap.size) (26) (#[.slice t4A t4n t4c, .slice o4A o4n o4c, .slice s4A s4n s4c]) ∧ Below wa11.heap.size wa11 Wv) ⟨((Bx.at_ (by simp))), ((Below.refl _ wa11).alloc (by simp <;> omega) _)⟩ ?_
    rintro wa12 ⟨g15, b⟩
    try clear c_g1 f_g1 a_g1 d_g1 e_g1
    replace g1 := g1.below b; have c_g1 := g1.cell; have f_g1 := g1.free; have a_g1 := fun o => (g1.alloc o).cell; have d_g1 := fun o o2 => ((g1.alloc o).alloc o2).cell; have e_g1 := fun o => (g1.alloc o).free; try clear c_g2 f_g2 a_g2 d_g2 e_g2
    replace g2 := g2.below b; have c_g2 := g2.cell; have f_g2 := g2.free; have a_g2 := fun o => (g2.alloc o).cell; have d_g2 := fun o o2 => ((g2.alloc o).alloc o2).cell; have e_g2 := fun o => (g2.alloc o).free; replace hm := hm.below b; replace hn := hn.below b; try clear c_g3 f_g3 a_g3 d_g3 e_g3
    replace g3 := g3.below b; have c_g3 := g3.cell; have f_g3 := g3.free; have a_g3 := fun o => (g3.alloc o).cell; have d_g3 := fun o o2 => ((g3.alloc o).alloc o2).cell; have e_g3 := fun o => (g3.alloc o).free; replace k1 := k1.below b; try clear c_g10 f_g10 a_g10 d_g10 e_g10
    replace g10 := g10.below b; have c_g10 := g10.cell; have f_g10 := g10.free; have a_g10 := fun o => (g10.alloc o).cell; have d_g10 := fun o o2 => ((g10.alloc o).alloc o2).cell; have e_g10 := fun o => (g10.alloc o).free; try clear c_g11 f_g11 a_g11 d_g11 e_g11
    replace g11 := g11.below b; have c_g11 := g11.cell; have f_g11 := g11.free; have a_g11 := fun o => (g11.alloc o).cell; have d_g11 := fun o o2 => ((g11.alloc o).alloc o2).cell; have e_g11 := fun o => (g11.alloc o).free; replace k2 := k2.below b; try clear c_g12 f_g12 a_g12 d_g12 e_g12
    replace g12 := g12.below b; have c_g12 := g12.cell; have f_g12 := g12.free; have a_g12 := fun o => (g12.alloc o).cell; have d_g12 := fun o o2 => ((g12.alloc o).alloc o2).cell; have e_g12 := fun o => (g12.alloc o).free; try clear c_g13 f_g13 a_g13 d_g13 e_g13
    replace g13 := g13.below b; have c_g13 := g13.cell; have f_g13 := g13.free; have a_g13 := fun o => (g13.alloc o).cell; have d_g13 := fun o o2 => ((g13.alloc o).alloc o2).cell; have e_g13 := fun o => (g13.alloc o).free; replace k3 := k3.below b; try clear c_g14 f_g14 a_g14 d_g14 e_g14
    replace g14 := g14.below b; have c_g14 := g14.cell; have f_g14 := g14.free; have a_g14 := fun o => (g14.alloc o).cell; have d_g14 := fun o o2 => ((g14.alloc o).alloc o2).cell; have e_g14 := fun o => (g14.alloc o).free; replace k4 := k4.below b; replace B := B.trans (b.mono B.size); clear b
    have c_g15 := g15.cell; have f_g15 := g15.free; have a_g15 := fun o => (g15.alloc o).cell; have d_g15 := fun o o2 => ((g15.alloc o).alloc o2).cell; have e_g15 := fun o => (g15.alloc o).free
    go_wp2_with fail
    refine (FA.out _ _ _ _ hm).mono ?_
    rintro e wa13 ⟨t5, o5, s5, rfl, k5, b⟩
    try clear c_g1 f_g1 a_g1 d_g1 e_g1
    replace g1 := g1.below b; have c_g1 := g1.cell; have f_g1 := g1.free; have a_g1 := fun o => (g1.alloc o).cell; have d_g1 := fun o o2 => ((g1.alloc o).alloc o2).cell; have e_g1 := fun o => (g1.alloc o).free; try clear c_g2 f_g2 a_g2 d_g2 e_g2
    replace g2 := g2.below b; have c_g2 := g2.cell; have f_g2 := g2.free; have a_g2 := fun o => (g2.alloc o).cell; have d_g2 := fun o o2 => ((g2.alloc o).alloc o2).cell; have e_g2 := fun o => (g2.alloc o).free; replace hm := hm.below b; replace hn := hn.below b; try clear c_g3 f_g3 a_g3 d_g3 e_g3
    replace g3 := g3.below b; have c_g3 := g3.cell; have f_g3 := g3.free; have a_g3 := fun o => (g3.alloc o).cell; have d_g3 := fun o o2 => ((g3.alloc o).alloc o2).cell; have e_g3 := fun o => (g3.alloc o).free; replace k1 := k1.below b; try clear c_g10 f_g10 a_g10 d_g10 e_g10
    replace g10 := g10.below b; have c_g10 := g10.cell; have f_g10 := g10.free; have a_g10 := fun o => (g10.alloc o).cell; have d_g10 := fun o o2 => ((g10.alloc o).alloc o2).cell; have e_g10 := fun o => (g10.alloc o).free; try clear c_g11 f_g11 a_g11 d_g11 e_g11
    replace g11 := g11.below b; have c_g11 := g11.cell; have f_g11 := g11.free; have a_g11 := fun o => (g11.alloc o).cell; have d_g11 := fun o o2 => ((g11.alloc o).alloc o2).cell; have e_g11 := fun o => (g11.alloc o).free; replace k2 := k2.below b; try clear c_g12 f_g12 a_g12 d_g12 e_g12
    replace g12 := g12.below b; have c_g12 := g12.cell; have f_g12 := g12.free; have a_g12 := fun o => (g12.alloc o).cell; have d_g12 := fun o o2 => ((g12.alloc o).alloc o2).cell; have e_g12 := fun o => (g12.alloc o).free; try clear c_g13 f_g13 a_g13 d_g13 e_g13
    replace g13 := g13.below b; have c_g13 := g13.cell; have f_g13 := g13.free; have a_g13 := fun o => (g13.alloc o).cell; have d_g13 := fun o o2 => ((g13.alloc o).alloc o2).cell; have e_g13 := fun o => (g13.alloc o).free; replace k3 := k3.below b; try clear c_g14 f_g14 a_g14 d_g14 e_g14
    replace g14 := g14.below b; have c_g14 := g14.cell; have f_g14 := g14.free; have a_g14 := fun o => (g14.alloc o).cell; have d_g14 := fun o o2 => ((g14.alloc o).alloc o2).cell; have e_g14 := fun o => (g14.alloc o).free; replace k4 := k4.below b; try clear c_g15 f_g15 a_g15 d_g15 e_g15
    replace g15 := g15.below b; have c_g15 := g15.cell; have f_g15 := g15.free; have a_g15 := fun o => (g15.alloc o).cell; have d_g15 := fun o o2 => ((g15.alloc o).alloc o2).cell; have e_g15 := fun o => (g15.alloc o).free; replace B := B.trans (b.mono B.size); clear b
    obtain ⟨⟨t5A, t5n, t5c, rfl⟩, ⟨o5A, o5n, o5c, rfl⟩, ⟨s5A, s5n, s5c, rfl⟩⟩ := k5.forms
    go_upto_region 9 with (fail)
    refine wp_gen (fun Wv => Bx Wv (wa13.heap.size) (26) (#[.slice t5A t5n t5c, .slice o5A o5n o5c, .slice s5A s5n s5c]) ∧ Below wa13.heap.size wa13 Wv) ⟨((Bx.at_ (by simp))), ((Below.refl _ wa13).alloc (by simp <;> omega) _)⟩ ?_
    rintro wa14 ⟨g16, b⟩
    try clear c_g1 f_g1 a_g1 d_g1 e_g1
    replace g1 := g1.below b; have c_g1 := g1.cell; have f_g1 := g1.free; have a_g1 := fun o => (g1.alloc o).cell; have d_g1 := fun o o2 => ((g1.alloc o).alloc o2).cell; have e_g1 := fun o => (g1.alloc o).free; try clear c_g2 f_g2 a_g2 d_g2 e_g2
    replace g2 := g2.below b; have c_g2 := g2.cell; have f_g2 := g2.free; have a_g2 := fun o => (g2.alloc o).cell; have d_g2 := fun o o2 => ((g2.alloc o).alloc o2).cell; have e_g2 := fun o => (g2.alloc o).free; replace hm := hm.below b; replace hn := hn.below b; try clear c_g3 f_g3 a_g3 d_g3 e_g3
    replace g3 := g3.below b; have c_g3 := g3.cell; have f_g3 := g3.free; have a_g3 := fun o => (g3.alloc o).cell; have d_g3 := fun o o2 => ((g3.alloc o).alloc o2).cell; have e_g3 := fun o => (g3.alloc o).free; replace k1 := k1.below b; try clear c_g10 f_g10 a_g10 d_g10 e_g10
    replace g10 := g10.below b; have c_g10 := g10.cell; have f_g10 := g10.free; have a_g10 := fun o => (g10.alloc o).cell; have d_g10 := fun o o2 => ((g10.alloc o).alloc o2).cell; have e_g10 := fun o => (g10.alloc o).free; try clear c_g11 f_g11 a_g11 d_g11 e_g11
    replace g11 := g11.below b; have c_g11 := g11.cell; have f_g11 := g11.free; have a_g11 := fun o => (g11.alloc o).cell; have d_g11 := fun o o2 => ((g11.alloc o).alloc o2).cell; have e_g11 := fun o => (g11.alloc o).free; replace k2 := k2.below b; try clear c_g12 f_g12 a_g12 d_g12 e_g12
    replace g12 := g12.below b; have c_g12 := g12.cell; have f_g12 := g12.free; have a_g12 := fun o => (g12.alloc o).cell; have d_g12 := fun o o2 => ((g12.alloc o).alloc o2).cell; have e_g12 := fun o => (g12.alloc o).free; try clear c_g13 f_g13 a_g13 d_g13 e_g13
    replace g13 := g13.below b; have c_g13 := g13.cell; have f_g13 := g13.free; have a_g13 := fun o => (g13.alloc o).cell; have d_g13 := fun o o2 => ((g13.alloc o).alloc o2).cell; have e_g13 := fun o => (g13.alloc o).free; replace k3 := k3.below b; try clear c_g14 f_g14 a_g14 d_g14 e_g14
    replace g14 := g14.below b; have c_g14 := g14.cell; have f_g14 := g14.free; have a_g14 := fun o => (g14.alloc o).cell; have d_g14 := fun o o2 => ((g14.alloc o).alloc o2).cell; have e_g14 := fun o => (g14.alloc o).free; replace k4 := k4.below b; try clear c_g15 f_g15 a_g15 d_g15 e_g15
    replace g15 := g15.below b; have c_g15 := g15.cell; have f_g15 := g15.free; have a_g15 := fun o => (g15.alloc o).cell; have d_g15 := fun o o2 => ((g15.alloc o).alloc o2).cell; have e_g15 := fun o => (g15.alloc o).free; replace k5 := k5.below b; replace B := B.trans (b.mono B.size); clear b
    have c_g16 := g16.cell; have f_g16 := g16.free; have a_g16 := fun o => (g16.alloc o).cell; have d_g16 := fun o o2 => ((g16.alloc o).alloc o2).cell; have e_g16 := fun o => (g16.alloc o).free
    go_wp2_with fail
    refine (FB.out _ _ _ _ hn).mono ?_
    rintro e wa15 ⟨t6, o6, s6, rfl, k6, b⟩
    try clear c_g1 f_g1 a_g1 d_g1 e_g1
    replace g1 := g1.below b; have c_g1 := g1.cell; have f_g1 := g1.free; have a_g1 := fun o => (g1.alloc o).cell; have d_g1 := fun o o2 => ((g1.alloc o).alloc o2).cell; have e_g1 := fun o => (g1.alloc o).free; try clear c_g2 f_g2 a_g2 d_g2 e_g2
    replace g2 := g2.below b; have c_g2 := g2.cell; have f_g2 := g2.free; have a_g2 := fun o => (g2.alloc o).cell; have d_g2 := fun o o2 => ((g2.alloc o).alloc o2).cell; have e_g2 := fun o => (g2.alloc o).free; replace hm := hm.below b; replace hn := hn.below b; try clear c_g3 f_g3 a_g3 d_g3 e_g3
    replace g3 := g3.below b; have c_g3 := g3.cell; have f_g3 := g3.free; have a_g3 := fun o => (g3.alloc o).cell; have d_g3 := fun o o2 => ((g3.alloc o).alloc o2).cell; have e_g3 := fun o => (g3.alloc o).free; replace k1 := k1.below b; try clear c_g10 f_g10 a_g10 d_g10 e_g10
    replace g10 := g10.below b; have c_g10 := g10.cell; have f_g10 := g10.free; have a_g10 := fun o => (g10.alloc o).cell; have d_g10 := fun o o2 => ((g10.alloc o).alloc o2).cell; have e_g10 := fun o => (g10.alloc o).free; try clear c_g11 f_g11 a_g11 d_g11 e_g11
    replace g11 := g11.below b; have c_g11 := g11.cell; have f_g11 := g11.free; have a_g11 := fun o => (g11.alloc o).cell; have d_g11 := fun o o2 => ((g11.alloc o).alloc o2).cell; have e_g11 := fun o => (g11.alloc o).free; replace k2 := k2.below b; try clear c_g12 f_g12 a_g12 d_g12 e_g12
    replace g12 := g12.below b; have c_g12 := g12.cell; have f_g12 := g12.free; have a_g12 := fun o => (g12.alloc o).cell; have d_g12 := fun o o2 => ((g12.alloc o).alloc o2).cell; have e_g12 := fun o => (g12.alloc o).free; try clear c_g13 f_g13 a_g13 d_g13 e_g13
    replace g13 := g13.below b; have c_g13 := g13.cell; have f_g13 := g13.free; have a_g13 := fun o => (g13.alloc o).cell; have d_g13 := fun o o2 => ((g13.alloc o).alloc o2).cell; have e_g13 := fun o => (g13.alloc o).free; replace k3 := k3.below b; try clear c_g14 f_g14 a_g14 d_g14 e_g14
    replace g14 := g14.below b; have c_g14 := g14.cell; have f_g14 := g14.free; have a_g14 := fun o => (g14.alloc o).cell; have d_g14 := fun o o2 => ((g14.alloc o).alloc o2).cell; have e_g14 := fun o => (g14.alloc o).free; replace k4 := k4.below b; try clear c_g15 f_g15 a_g15 d_g15 e_g15
    replace g15 := g15.below b; have c_g15 := g15.cell; have f_g15 := g15.free; have a_g15 := fun o => (g15.alloc o).cell; have d_g15 := fun o o2 => ((g15.alloc o).alloc o2).cell; have e_g15 := fun o => (g15.alloc o).free; replace k5 := k5.below b; try clear c_g16 f_g16 a_g16 d_g16 e_g16
    replace g16 := g16.below b; have c_g16 := g16.cell; have f_g16 := g16.free; have a_g16 := fun o => (g16.alloc o).cell; have d_g16 := fun o o2 => ((g16.alloc o).alloc o2).cell; have e_g16 := fun o => (g16.alloc o).free; replace B := B.trans (b.mono B.size); clear b
    obtain ⟨⟨t6A, t6n, t6c, rfl⟩, ⟨o6A, o6n, o6c, rfl⟩, ⟨s6A, s6n, s6c, rfl⟩⟩ := k6.forms
    go_upto_region 10 with (fail)
    refine wp_gen (fun Wv => Bx Wv (wa15.heap.size) (26) (#[.slice t6A t6n t6c, .slice o6A o6n o6c, .slice s6A s6n s6c]) ∧ Below wa15.heap.size wa15 Wv) ⟨((Bx.at_ (by simp))), ((Below.refl _ wa15).alloc (by simp <;> omega) _)⟩ ?_
    rintro wa16 ⟨g17, b⟩
    try clear c_g1 f_g1 a_g1 d_g1 e_g1
    replace g1 := g1.below b; have c_g1 := g1.cell; have f_g1 := g1.free; have a_g1 := fun o => (g1.alloc o).cell; have d_g1 := fun o o2 => ((g1.alloc o).alloc o2).cell; have e_g1 := fun o => (g1.alloc o).free; try clear c_g2 f_g2 a_g2 d_g2 e_g2
    replace g2 := g2.below b; have c_g2 := g2.cell; have f_g2 := g2.free; have a_g2 := fun o => (g2.alloc o).cell; have d_g2 := fun o o2 => ((g2.alloc o).alloc o2).cell; have e_g2 := fun o => (g2.alloc o).free; replace hm := hm.below b; replace hn := hn.below b; try clear c_g3 f_g3 a_g3 d_g3 e_g3
    replace g3 := g3.below b; have c_g3 := g3.cell; have f_g3 := g3.free; have a_g3 := fun o => (g3.alloc o).cell; have d_g3 := fun o o2 => ((g3.alloc o).alloc o2).cell; have e_g3 := fun o => (g3.alloc o).free; replace k1 := k1.below b; try clear c_g10 f_g10 a_g10 d_g10 e_g10
    replace g10 := g10.below b; have c_g10 := g10.cell; have f_g10 := g10.free; have a_g10 := fun o => (g10.alloc o).cell; have d_g10 := fun o o2 => ((g10.alloc o).alloc o2).cell; have e_g10 := fun o => (g10.alloc o).free; try clear c_g11 f_g11 a_g11 d_g11 e_g11
    replace g11 := g11.below b; have c_g11 := g11.cell; have f_g11 := g11.free; have a_g11 := fun o => (g11.alloc o).cell; have d_g11 := fun o o2 => ((g11.alloc o).alloc o2).cell; have e_g11 := fun o => (g11.alloc o).free; replace k2 := k2.below b; try clear c_g12 f_g12 a_g12 d_g12 e_g12
    replace g12 := g12.below b; have c_g12 := g12.cell; have f_g12 := g12.free; have a_g12 := fun o => (g12.alloc o).cell; have d_g12 := fun o o2 => ((g12.alloc o).alloc o2).cell; have e_g12 := fun o => (g12.alloc o).free; try clear c_g13 f_g13 a_g13 d_g13 e_g13
    replace g13 := g13.below b; have c_g13 := g13.cell; have f_g13 := g13.free; have a_g13 := fun o => (g13.alloc o).cell; have d_g13 := fun o o2 => ((g13.alloc o).alloc o2).cell; have e_g13 := fun o => (g13.alloc o).free; replace k3 := k3.below b; try clear c_g14 f_g14 a_g14 d_g14 e_g14
    replace g14 := g14.below b; have c_g14 := g14.cell; have f_g14 := g14.free; have a_g14 := fun o => (g14.alloc o).cell; have d_g14 := fun o o2 => ((g14.alloc o).alloc o2).cell; have e_g14 := fun o => (g14.alloc o).free; replace k4 := k4.below b; try clear c_g15 f_g15 a_g15 d_g15 e_g15
    replace g15 := g15.below b; have c_g15 := g15.cell; have f_g15 := g15.free; have a_g15 := fun o => (g15.alloc o).cell; have d_g15 := fun o o2 => ((g15.alloc o).alloc o2).cell; have e_g15 := fun o => (g15.alloc o).free; replace k5 := k5.below b; try clear c_g16 f_g16 a_g16 d_g16 e_g16
    replace g16 := g16.below b; have c_g16 := g16.cell; have f_g16 := g16.free; have a_g16 := fun o => (g16.alloc o).cell; have d_g16 := fun o o2 => ((g16.alloc o).alloc o2).cell; have e_g16 := fun o => (g16.alloc o).free; replace k6 := k6.below b; replace B := B.trans (b.mono B.size); clear b
    have c_g17 := g17.cell; have f_g17 := g17.free; have a_g17 := fun o => (g17.alloc o).cell; have d_g17 := fun o o2 => ((g17.alloc o).alloc o2).cell; have e_g17 := fun o => (g17.alloc o).free
    go_wp2_with fail
    refine (CA.out _ _ _ _ hm).mono ?_
    rintro e wa17 ⟨t7, o7, s7, rfl, k7, b⟩
    try clear c_g1 f_g1 a_g1 d_g1 e_g1
    replace g1 := g1.below b; have c_g1 := g1.cell; have f_g1 := g1.free; have a_g1 := fun o => (g1.alloc o).cell; have d_g1 := fun o o2 => ((g1.alloc o).alloc o2).cell; have e_g1 := fun o => (g1.alloc o).free; try clear c_g2 f_g2 a_g2 d_g2 e_g2
    replace g2 := g2.below b; have c_g2 := g2.cell; have f_g2 := g2.free; have a_g2 := fun o => (g2.alloc o).cell; have d_g2 := fun o o2 => ((g2.alloc o).alloc o2).cell; have e_g2 := fun o => (g2.alloc o).free; replace hm := hm.below b; replace hn := hn.below b; try clear c_g3 f_g3 a_g3 d_g3 e_g3
    replace g3 := g3.below b; have c_g3 := g3.cell; have f_g3 := g3.free; have a_g3 := fun o => (g3.alloc o).cell; have d_g3 := fun o o2 => ((g3.alloc o).alloc o2).cell; have e_g3 := fun o => (g3.alloc o).free; replace k1 := k1.below b; try clear c_g10 f_g10 a_g10 d_g10 e_g10
    replace g10 := g10.below b; have c_g10 := g10.cell; have f_g10 := g10.free; have a_g10 := fun o => (g10.alloc o).cell; have d_g10 := fun o o2 => ((g10.alloc o).alloc o2).cell; have e_g10 := fun o => (g10.alloc o).free; try clear c_g11 f_g11 a_g11 d_g11 e_g11
    replace g11 := g11.below b; have c_g11 := g11.cell; have f_g11 := g11.free; have a_g11 := fun o => (g11.alloc o).cell; have d_g11 := fun o o2 => ((g11.alloc o).alloc o2).cell; have e_g11 := fun o => (g11.alloc o).free; replace k2 := k2.below b; try clear c_g12 f_g12 a_g12 d_g12 e_g12
    replace g12 := g12.below b; have c_g12 := g12.cell; have f_g12 := g12.free; have a_g12 := fun o => (g12.alloc o).cell; have d_g12 := fun o o2 => ((g12.alloc o).alloc o2).cell; have e_g12 := fun o => (g12.alloc o).free; try clear c_g13 f_g13 a_g13 d_g13 e_g13
    replace g13 := g13.below b; have c_g13 := g13.cell; have f_g13 := g13.free; have a_g13 := fun o => (g13.alloc o).cell; have d_g13 := fun o o2 => ((g13.alloc o).alloc o2).cell; have e_g13 := fun o => (g13.alloc o).free; replace k3 := k3.below b; try clear c_g14 f_g14 a_g14 d_g14 e_g14
    replace g14 := g14.below b; have c_g14 := g14.cell; have f_g14 := g14.free; have a_g14 := fun o => (g14.alloc o).cell; have d_g14 := fun o o2 => ((g14.alloc o).alloc o2).cell; have e_g14 := fun o => (g14.alloc o).free; replace k4 := k4.below b; try clear c_g15 f_g15 a_g15 d_g15 e_g15
    replace g15 := g15.below b; have c_g15 := g15.cell; have f_g15 := g15.free; have a_g15 := fun o => (g15.alloc o).cell; have d_g15 := fun o o2 => ((g15.alloc o).alloc o2).cell; have e_g15 := fun o => (g15.alloc o).free; replace k5 := k5.below b; try clear c_g16 f_g16 a_g16 d_g16 e_g16
    replace g16 := g16.below b; have c_g16 := g16.cell; have f_g16 := g16.free; have a_g16 := fun o => (g16.alloc o).cell; have d_g16 := fun o o2 => ((g16.alloc o).alloc o2).cell; have e_g16 := fun o => (g16.alloc o).free; replace k6 := k6.below b; try clear c_g17 f_g17 a_g17 d_g17 e_g17
    replace g17 := g17.below b; have c_g17 := g17.cell; have f_g17 := g17.free; have a_g17 := fun o => (g17.alloc o).cell; have d_g17 := fun o o2 => ((g17.alloc o).alloc o2).cell; have e_g17 := fun o => (g17.alloc o).free; replace B := B.trans (b.mono B.size); clear b
    obtain ⟨⟨t7A, t7n, t7c, rfl⟩, ⟨o7A, o7n, o7c, rfl⟩, ⟨s7A, s7n, s7c, rfl⟩⟩ := k7.forms
    go_upto_region 11 with (fail)
    refine wp_gen (fun Wv => Bx Wv (wa17.heap.size) (26) (#[.slice t7A t7n t7c, .slice o7A o7n o7c, .slice s7A s7n s7c]) ∧ Below wa17.heap.size wa17 Wv) ⟨((Bx.at_ (by simp))), ((Below.refl _ wa17).alloc (by simp <;> omega) _)⟩ ?_
    rintro wa18 ⟨g18, b⟩
    try clear c_g1 f_g1 a_g1 d_g1 e_g1
    replace g1 := g1.below b; have c_g1 := g1.cell; have f_g1 := g1.free; have a_g1 := fun o => (g1.alloc o).cell; have d_g1 := fun o o2 => ((g1.alloc o).alloc o2).cell; have e_g1 := fun o => (g1.alloc o).free; try clear c_g2 f_g2 a_g2 d_g2 e_g2
    replace g2 := g2.below b; have c_g2 := g2.cell; have f_g2 := g2.free; have a_g2 := fun o => (g2.alloc o).cell; have d_g2 := fun o o2 => ((g2.alloc o).alloc o2).cell; have e_g2 := fun o => (g2.alloc o).free; replace hm := hm.below b; replace hn := hn.below b; try clear c_g3 f_g3 a_g3 d_g3 e_g3
    replace g3 := g3.below b; have c_g3 := g3.cell; have f_g3 := g3.free; have a_g3 := fun o => (g3.alloc o).cell; have d_g3 := fun o o2 => ((g3.alloc o).alloc o2).cell; have e_g3 := fun o => (g3.alloc o).free; replace k1 := k1.below b; try clear c_g10 f_g10 a_g10 d_g10 e_g10
    replace g10 := g10.below b; have c_g10 := g10.cell; have f_g10 := g10.free; have a_g10 := fun o => (g10.alloc o).cell; have d_g10 := fun o o2 => ((g10.alloc o).alloc o2).cell; have e_g10 := fun o => (g10.alloc o).free; try clear c_g11 f_g11 a_g11 d_g11 e_g11
    replace g11 := g11.below b; have c_g11 := g11.cell; have f_g11 := g11.free; have a_g11 := fun o => (g11.alloc o).cell; have d_g11 := fun o o2 => ((g11.alloc o).alloc o2).cell; have e_g11 := fun o => (g11.alloc o).free; replace k2 := k2.below b; try clear c_g12 f_g12 a_g12 d_g12 e_g12
    replace g12 := g12.below b; have c_g12 := g12.cell; have f_g12 := g12.free; have a_g12 := fun o => (g12.alloc o).cell; have d_g12 := fun o o2 => ((g12.alloc o).alloc o2).cell; have e_g12 := fun o => (g12.alloc o).free; try clear c_g13 f_g13 a_g13 d_g13 e_g13
    replace g13 := g13.below b; have c_g13 := g13.cell; have f_g13 := g13.free; have a_g13 := fun o => (g13.alloc o).cell; have d_g13 := fun o o2 => ((g13.alloc o).alloc o2).cell; have e_g13 := fun o => (g13.alloc o).free; replace k3 := k3.below b; try clear c_g14 f_g14 a_g14 d_g14 e_g14
    replace g14 := g14.below b; have c_g14 := g14.cell; have f_g14 := g14.free; have a_g14 := fun o => (g14.alloc o).cell; have d_g14 := fun o o2 => ((g14.alloc o).alloc o2).cell; have e_g14 := fun o => (g14.alloc o).free; replace k4 := k4.below b; try clear c_g15 f_g15 a_g15 d_g15 e_g15
    replace g15 := g15.below b; have c_g15 := g15.cell; have f_g15 := g15.free; have a_g15 := fun o => (g15.alloc o).cell; have d_g15 := fun o o2 => ((g15.alloc o).alloc o2).cell; have e_g15 := fun o => (g15.alloc o).free; replace k5 := k5.below b; try clear c_g16 f_g16 a_g16 d_g16 e_g16
    replace g16 := g16.below b; have c_g16 := g16.cell; have f_g16 := g16.free; have a_g16 := fun o => (g16.alloc o).cell; have d_g16 := fun o o2 => ((g16.alloc o).alloc o2).cell; have e_g16 := fun o => (g16.alloc o).free; replace k6 := k6.below b; try clear c_g17 f_g17 a_g17 d_g17 e_g17
    replace g17 := g17.below b; have c_g17 := g17.cell; have f_g17 := g17.free; have a_g17 := fun o => (g17.alloc o).cell; have d_g17 := fun o o2 => ((g17.alloc o).alloc o2).cell; have e_g17 := fun o => (g17.alloc o).free; replace k7 := k7.below b; replace B := B.trans (b.mono B.size); clear b
    have c_g18 := g18.cell; have f_g18 := g18.free; have a_g18 := fun o => (g18.alloc o).cell; have d_g18 := fun o o2 => ((g18.alloc o).alloc o2).cell; have e_g18 := fun o => (g18.alloc o).free
    go_wp2_with fail
    refine (CB.out _ _ _ _ hn).mono ?_
    rintro e wa19 ⟨t8, o8, s8, rfl, k8, b⟩
    try clear c_g1 f_g1 a_g1 d_g1 e_g1
    replace g1 := g1.below b; have c_g1 := g1.cell; have f_g1 := g1.free; have a_g1 := fun o => (g1.alloc o).cell; have d_g1 := fun o o2 => ((g1.alloc o).alloc o2).cell; have e_g1 := fun o => (g1.alloc o).free; try clear c_g2 f_g2 a_g2 d_g2 e_g2
    replace g2 := g2.below b; have c_g2 := g2.cell; have f_g2 := g2.free; have a_g2 := fun o => (g2.alloc o).cell; have d_g2 := fun o o2 => ((g2.alloc o).alloc o2).cell; have e_g2 := fun o => (g2.alloc o).free; replace hm := hm.below b; replace hn := hn.below b; try clear c_g3 f_g3 a_g3 d_g3 e_g3
    replace g3 := g3.below b; have c_g3 := g3.cell; have f_g3 := g3.free; have a_g3 := fun o => (g3.alloc o).cell; have d_g3 := fun o o2 => ((g3.alloc o).alloc o2).cell; have e_g3 := fun o => (g3.alloc o).free; replace k1 := k1.below b; try clear c_g10 f_g10 a_g10 d_g10 e_g10
    replace g10 := g10.below b; have c_g10 := g10.cell; have f_g10 := g10.free; have a_g10 := fun o => (g10.alloc o).cell; have d_g10 := fun o o2 => ((g10.alloc o).alloc o2).cell; have e_g10 := fun o => (g10.alloc o).free; try clear c_g11 f_g11 a_g11 d_g11 e_g11
    replace g11 := g11.below b; have c_g11 := g11.cell; have f_g11 := g11.free; have a_g11 := fun o => (g11.alloc o).cell; have d_g11 := fun o o2 => ((g11.alloc o).alloc o2).cell; have e_g11 := fun o => (g11.alloc o).free; replace k2 := k2.below b; try clear c_g12 f_g12 a_g12 d_g12 e_g12
    replace g12 := g12.below b; have c_g12 := g12.cell; have f_g12 := g12.free; have a_g12 := fun o => (g12.alloc o).cell; have d_g12 := fun o o2 => ((g12.alloc o).alloc o2).cell; have e_g12 := fun o => (g12.alloc o).free; try clear c_g13 f_g13 a_g13 d_g13 e_g13
    replace g13 := g13.below b; have c_g13 := g13.cell; have f_g13 := g13.free; have a_g13 := fun o => (g13.alloc o).cell; have d_g13 := fun o o2 => ((g13.alloc o).alloc o2).cell; have e_g13 := fun o => (g13.alloc o).free; replace k3 := k3.below b; try clear c_g14 f_g14 a_g14 d_g14 e_g14
    replace g14 := g14.below b; have c_g14 := g14.cell; have f_g14 := g14.free; have a_g14 := fun o => (g14.alloc o).cell; have d_g14 := fun o o2 => ((g14.alloc o).alloc o2).cell; have e_g14 := fun o => (g14.alloc o).free; replace k4 := k4.below b; try clear c_g15 f_g15 a_g15 d_g15 e_g15
    replace g15 := g15.below b; have c_g15 := g15.cell; have f_g15 := g15.free; have a_g15 := fun o => (g15.alloc o).cell; have d_g15 := fun o o2 => ((g15.alloc o).alloc o2).cell; have e_g15 := fun o => (g15.alloc o).free; replace k5 := k5.below b; try clear c_g16 f_g16 a_g16 d_g16 e_g16
    replace g16 := g16.below b; have c_g16 := g16.cell; have f_g16 := g16.free; have a_g16 := fun o => (g16.alloc o).cell; have d_g16 := fun o o2 => ((g16.alloc o).alloc o2).cell; have e_g16 := fun o => (g16.alloc o).free; replace k6 := k6.below b; try clear c_g17 f_g17 a_g17 d_g17 e_g17
    replace g17 := g17.below b; have c_g17 := g17.cell; have f_g17 := g17.free; have a_g17 := fun o => (g17.alloc o).cell; have d_g17 := fun o o2 => ((g17.alloc o).alloc o2).cell; have e_g17 := fun o => (g17.alloc o).free; replace k7 := k7.below b; try clear c_g18 f_g18 a_g18 d_g18 e_g18
    replace g18 := g18.below b; have c_g18 := g18.cell; have f_g18 := g18.free; have a_g18 := fun o => (g18.alloc o).cell; have d_g18 := fun o o2 => ((g18.alloc o).alloc o2).cell; have e_g18 := fun o => (g18.alloc o).free; replace B := B.trans (b.mono B.size); clear b
    obtain ⟨⟨t8A, t8n, t8c, rfl⟩, ⟨o8A, o8n, o8c, rfl⟩, ⟨s8A, s8n, s8c, rfl⟩⟩ := k8.forms
    go_upto_region 12 with (fail)
    refine wp_gen (fun Wv => Bx Wv (wa19.heap.size) (26) (#[.slice t8A t8n t8c, .slice o8A o8n o8c, .slice s8A s8n s8c]) ∧ Below wa19.heap.size wa19 Wv) ⟨((Bx.at_ (by simp))), ((Below.refl _ wa19).alloc (by simp <;> omega) _)⟩ ?_
    rintro wa20 ⟨g19, b⟩
    try clear c_g1 f_g1 a_g1 d_g1 e_g1
    replace g1 := g1.below b; have c_g1 := g1.cell; have f_g1 := g1.free; have a_g1 := fun o => (g1.alloc o).cell; have d_g1 := fun o o2 => ((g1.alloc o).alloc o2).cell; have e_g1 := fun o => (g1.alloc o).free; try clear c_g2 f_g2 a_g2 d_g2 e_g2
    replace g2 := g2.below b; have c_g2 := g2.cell; have f_g2 := g2.free; have a_g2 := fun o => (g2.alloc o).cell; have d_g2 := fun o o2 => ((g2.alloc o).alloc o2).cell; have e_g2 := fun o => (g2.alloc o).free; replace hm := hm.below b; replace hn := hn.below b; try clear c_g3 f_g3 a_g3 d_g3 e_g3
    replace g3 := g3.below b; have c_g3 := g3.cell; have f_g3 := g3.free; have a_g3 := fun o => (g3.alloc o).cell; have d_g3 := fun o o2 => ((g3.alloc o).alloc o2).cell; have e_g3 := fun o => (g3.alloc o).free; replace k1 := k1.below b; try clear c_g10 f_g10 a_g10 d_g10 e_g10
    replace g10 := g10.below b; have c_g10 := g10.cell; have f_g10 := g10.free; have a_g10 := fun o => (g10.alloc o).cell; have d_g10 := fun o o2 => ((g10.alloc o).alloc o2).cell; have e_g10 := fun o => (g10.alloc o).free; try clear c_g11 f_g11 a_g11 d_g11 e_g11
    replace g11 := g11.below b; have c_g11 := g11.cell; have f_g11 := g11.free; have a_g11 := fun o => (g11.alloc o).cell; have d_g11 := fun o o2 => ((g11.alloc o).alloc o2).cell; have e_g11 := fun o => (g11.alloc o).free; replace k2 := k2.below b; try clear c_g12 f_g12 a_g12 d_g12 e_g12
    replace g12 := g12.below b; have c_g12 := g12.cell; have f_g12 := g12.free; have a_g12 := fun o => (g12.alloc o).cell; have d_g12 := fun o o2 => ((g12.alloc o).alloc o2).cell; have e_g12 := fun o => (g12.alloc o).free; try clear c_g13 f_g13 a_g13 d_g13 e_g13
    replace g13 := g13.below b; have c_g13 := g13.cell; have f_g13 := g13.free; have a_g13 := fun o => (g13.alloc o).cell; have d_g13 := fun o o2 => ((g13.alloc o).alloc o2).cell; have e_g13 := fun o => (g13.alloc o).free; replace k3 := k3.below b; try clear c_g14 f_g14 a_g14 d_g14 e_g14
    replace g14 := g14.below b; have c_g14 := g14.cell; have f_g14 := g14.free; have a_g14 := fun o => (g14.alloc o).cell; have d_g14 := fun o o2 => ((g14.alloc o).alloc o2).cell; have e_g14 := fun o => (g14.alloc o).free; replace k4 := k4.below b; try clear c_g15 f_g15 a_g15 d_g15 e_g15
    replace g15 := g15.below b; have c_g15 := g15.cell; have f_g15 := g15.free; have a_g15 := fun o => (g15.alloc o).cell; have d_g15 := fun o o2 => ((g15.alloc o).alloc o2).cell; have e_g15 := fun o => (g15.alloc o).free; replace k5 := k5.below b; try clear c_g16 f_g16 a_g16 d_g16 e_g16
    replace g16 := g16.below b; have c_g16 := g16.cell; have f_g16 := g16.free; have a_g16 := fun o => (g16.alloc o).cell; have d_g16 := fun o o2 => ((g16.alloc o).alloc o2).cell; have e_g16 := fun o => (g16.alloc o).free; replace k6 := k6.below b; try clear c_g17 f_g17 a_g17 d_g17 e_g17
    replace g17 := g17.below b; have c_g17 := g17.cell; have f_g17 := g17.free; have a_g17 := fun o => (g17.alloc o).cell; have d_g17 := fun o o2 => ((g17.alloc o).alloc o2).cell; have e_g17 := fun o => (g17.alloc o).free; replace k7 := k7.below b; try clear c_g18 f_g18 a_g18 d_g18 e_g18
    replace g18 := g18.below b; have c_g18 := g18.cell; have f_g18 := g18.free; have a_g18 := fun o => (g18.alloc o).cell; have d_g18 := fun o o2 => ((g18.alloc o).alloc o2).cell; have e_g18 := fun o => (g18.alloc o).free; replace k8 := k8.below b; replace B := B.trans (b.mono B.size); clear b
    have c_g19 := g19.cell; have f_g19 := g19.free; have a_g19 := fun o => (g19.alloc o).cell; have d_g19 := fun o o2 => ((g19.alloc o).alloc o2).cell; have e_g19 := fun o => (g19.alloc o).free
    have K1 := Lib.hid (fun z : Fut _ => k1.below z.h); have K2 := Lib.hid (fun z : Fut _ => k2.below z.h); have K3 := Lib.hid (fun z : Fut _ => k3.below z.h); have K4 := Lib.hid (fun z : Fut _ => k4.below z.h)
    have K5 := Lib.hid (fun z : Fut _ => k5.below z.h); have K6 := Lib.hid (fun z : Fut _ => k6.below z.h); have K7 := Lib.hid (fun z : Fut _ => k7.below z.h); have K8 := Lib.hid (fun z : Fut _ => k8.below z.h)
    have KM := Lib.hid (fun z : Fut _ => hm.below z.h); have KN := Lib.hid (fun z : Fut _ => hn.below z.h)
    refine wp_region_calm (by kernel_rfl) (by kernel_rfl) ?_
    try clear c_g1 f_g1 a_g1 d_g1 e_g1
    have c_g1 := fun x : Fut _ => (g1.below x.h).cell
    try clear c_g2 f_g2 a_g2 d_g2 e_g2
    have c_g2 := fun x : Fut _ => (g2.below x.h).cell
    try clear c_g3 f_g3 a_g3 d_g3 e_g3
    have c_g3 := fun x : Fut _ => (g3.below x.h).cell
    try clear c_g10 f_g10 a_g10 d_g10 e_g10
    have c_g10 := fun x : Fut _ => (g10.below x.h).cell
    try clear c_g11 f_g11 a_g11 d_g11 e_g11
    have c_g11 := fun x : Fut _ => (g11.below x.h).cell
    try clear c_g12 f_g12 a_g12 d_g12 e_g12
    have c_g12 := fun x : Fut _ => (g12.below x.h).cell
    try clear c_g13 f_g13 a_g13 d_g13 e_g13
    have c_g13 := fun x : Fut _ => (g13.below x.h).cell
    try clear c_g14 f_g14 a_g14 d_g14 e_g14
    have c_g14 := fun x : Fut _ => (g14.below x.h).cell
    try clear c_g15 f_g15 a_g15 d_g15 e_g15
    have c_g15 := fun x : Fut _ => (g15.below x.h).cell
    try clear c_g16 f_g16 a_g16 d_g16 e_g16
    have c_g16 := fun x : Fut _ => (g16.below x.h).cell
    try clear c_g17 f_g17 a_g17 d_g17 e_g17
    have c_g17 := fun x : Fut _ => (g17.below x.h).cell
    try clear c_g18 f_g18 a_g18 d_g18 e_g18
    have c_g18 := fun x : Fut _ => (g18.below x.h).cell
    try clear c_g19 f_g19 a_g19 d_g19 e_g19
    have c_g19 := fun x : Fut _ => (g19.below x.h).cell
    repeat (go_big_quiet_step (first | exact Fut.call (SM.out _ _ _ _ _ _ _ _ (K1.out _) (K2.out _)) | exact Fut.call (SM.out _ _ _ _ _ _ _ _ (K3.out _) (K4.out _)) | exact Fut.call (SM.out _ _ _ _ _ _ _ _ (K5.out _) (K6.out _)) | exact Fut.call (SM.out _ _ _ _ _ _ _ _ (K7.out _) (K8.out _)) | exact Fut.call (SM.out _ _ _ _ _ _ _ _ (KM.out _) (KN.out _)) | exact Fut.call (KA.out _ _ _ _ (KM.out _)) | exact Fut.call (KB.out _ _ _ _ (KN.out _))))
    refine wpQuiet_nil ?_
    intro _ hw'
    obtain ⟨xq, hw''⟩ := hw'
    subst hw''
    clear c_g1; replace g1 := g1.below xq.h; have c_g1 := g1.cell; have f_g1 := g1.free; have a_g1 := fun o => (g1.alloc o).cell; have d_g1 := fun o o2 => ((g1.alloc o).alloc o2).cell; have e_g1 := fun o => (g1.alloc o).free
    clear c_g2; replace g2 := g2.below xq.h; have c_g2 := g2.cell; have f_g2 := g2.free; have a_g2 := fun o => (g2.alloc o).cell; have d_g2 := fun o o2 => ((g2.alloc o).alloc o2).cell; have e_g2 := fun o => (g2.alloc o).free
    replace hm := hm.below xq.h
    replace hn := hn.below xq.h
    clear c_g3; replace g3 := g3.below xq.h; have c_g3 := g3.cell; have f_g3 := g3.free; have a_g3 := fun o => (g3.alloc o).cell; have d_g3 := fun o o2 => ((g3.alloc o).alloc o2).cell; have e_g3 := fun o => (g3.alloc o).free
    replace k1 := k1.below xq.h
    clear c_g10; replace g10 := g10.below xq.h; have c_g10 := g10.cell; have f_g10 := g10.free; have a_g10 := fun o => (g10.alloc o).cell; have d_g10 := fun o o2 => ((g10.alloc o).alloc o2).cell; have e_g10 := fun o => (g10.alloc o).free
    clear c_g11; replace g11 := g11.below xq.h; have c_g11 := g11.cell; have f_g11 := g11.free; have a_g11 := fun o => (g11.alloc o).cell; have d_g11 := fun o o2 => ((g11.alloc o).alloc o2).cell; have e_g11 := fun o => (g11.alloc o).free
    replace k2 := k2.below xq.h
    clear c_g12; replace g12 := g12.below xq.h; have c_g12 := g12.cell; have f_g12 := g12.free; have a_g12 := fun o => (g12.alloc o).cell; have d_g12 := fun o o2 => ((g12.alloc o).alloc o2).cell; have e_g12 := fun o => (g12.alloc o).free
    clear c_g13; replace g13 := g13.below xq.h; have c_g13 := g13.cell; have f_g13 := g13.free; have a_g13 := fun o => (g13.alloc o).cell; have d_g13 := fun o o2 => ((g13.alloc o).alloc o2).cell; have e_g13 := fun o => (g13.alloc o).free
    replace k3 := k3.below xq.h
    clear c_g14; replace g14 := g14.below xq.h; have c_g14 := g14.cell; have f_g14 := g14.free; have a_g14 := fun o => (g14.alloc o).cell; have d_g14 := fun o o2 => ((g14.alloc o).alloc o2).cell; have e_g14 := fun o => (g14.alloc o).free
    replace k4 := k4.below xq.h
    clear c_g15; replace g15 := g15.below xq.h; have c_g15 := g15.cell; have f_g15 := g15.free; have a_g15 := fun o => (g15.alloc o).cell; have d_g15 := fun o o2 => ((g15.alloc o).alloc o2).cell; have e_g15 := fun o => (g15.alloc o).free
    replace k5 := k5.below xq.h
    clear c_g16; replace g16 := g16.below xq.h; have c_g16 := g16.cell; have f_g16 := g16.free; have a_g16 := fun o => (g16.alloc o).cell; have d_g16 := fun o o2 => ((g16.alloc o).alloc o2).cell; have e_g16 := fun o => (g16.alloc o).free
    replace k6 := k6.below xq.h
    clear c_g17; replace g17 := g17.below xq.h; have c_g17 := g17.cell; have f_g17 := g17.free; have a_g17 := fun o => (g17.alloc o).cell; have d_g17 := fun o o2 => ((g17.alloc o).alloc o2).cell; have e_g17 := fun o => (g17.alloc o).free
    replace k7 := k7.below xq.h
    clear c_g18; replace g18 := g18.below xq.h; have c_g18 := g18.cell; have f_g18 := g18.free; have a_g18 := fun o => (g18.alloc o).cell; have d_g18 := fun o o2 => ((g18.alloc o).alloc o2).cell; have e_g18 := fun o => (g18.alloc o).free
    replace k8 := k8.below xq.h
    clear c_g19; replace g19 := g19.below xq.h; have c_g19 := g19.cell; have f_g19 := g19.free; have a_g19 := fun o => (g19.alloc o).cell; have d_g19 := fun o o2 => ((g19.alloc o).alloc o2).cell; have e_g19 := fun o => (g19.alloc o).free
    replace B := B.trans (xq.h.mono B.size)
    go_wp2
    go_ret
    exact ⟨rfl, B⟩
  · clear hz h
    go_enter Try.func5, Try.ntmps5
    go_upto_region 1 with (fail)
    refine wp_gen (fun Wv => Bx Wv (w.heap.size) (26) (#[tv, ov, sv]) ∧ Bx Wv (w.heap.size + 1) (28) (#[.int .i64 a0, .int .i64 b0]) ∧ Below w.heap.size w Wv) ⟨(((Bx.at_ (by simp)).alloc _)), ((Bx.at_ (by simp))), (((Below.refl _ w).alloc (by simp <;> omega) _).alloc (by simp <;> omega) _)⟩ ?_
    rintro wa1 ⟨g1, g2, b⟩
    replace hm := hm.below b; replace B := B.trans (b.mono B.size); clear b
    have c_g1 := g1.cell; have f_g1 := g1.free; have a_g1 := fun o => (g1.alloc o).cell; have d_g1 := fun o o2 => ((g1.alloc o).alloc o2).cell; have e_g1 := fun o => (g1.alloc o).free
    have c_g2 := g2.cell; have f_g2 := g2.free; have a_g2 := fun o => (g2.alloc o).cell; have d_g2 := fun o o2 => ((g2.alloc o).alloc o2).cell; have e_g2 := fun o => (g2.alloc o).free
    go_wp2_with fail
    refine (GT.out _ hm).mono ?_
    rintro e wa2 ⟨rfl, b⟩
    replace hm := hm.below b; try clear c_g1 f_g1 a_g1 d_g1 e_g1
    replace g1 := g1.below b; have c_g1 := g1.cell; have f_g1 := g1.free; have a_g1 := fun o => (g1.alloc o).cell; have d_g1 := fun o o2 => ((g1.alloc o).alloc o2).cell; have e_g1 := fun o => (g1.alloc o).free; try clear c_g2 f_g2 a_g2 d_g2 e_g2
    replace g2 := g2.below b; have c_g2 := g2.cell; have f_g2 := g2.free; have a_g2 := fun o => (g2.alloc o).cell; have d_g2 := fun o o2 => ((g2.alloc o).alloc o2).cell; have e_g2 := fun o => (g2.alloc o).free; replace B := B.trans (b.mono B.size); clear b
    go_wp2
    go_ret
    exact ⟨rfl, B⟩
end Go.Proofs.Ytgjpohhafmkhcaa
