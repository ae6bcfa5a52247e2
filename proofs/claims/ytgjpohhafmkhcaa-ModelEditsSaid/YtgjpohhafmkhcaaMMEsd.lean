/- Contracts of the functions that the law 'ModelEdits' reaches, part 4. No condition. -/
import Derived.Test.YtgjpohhafmkhcaaMMEsc
set_option linter.unusedVariables false
set_option linter.unusedSimpArgs false
namespace Go.Proofs.Ytgjpohhafmkhcaa
open Go.RowKit L02 L13 L18 L20
/-- what is known of a field that is there -/
theorem fld_ok {m : Mo} {sl g n : Int} (h : kErrF m sl g n = 0) : ∃ (i n' : Nat) (o : Ob) (x : UInt64), n = (i : Int) ∧ own m sl = n' ∧ m.objs[n']? = some o ∧ o.fs[i]? = some x ∧ fld m sl n = x ∧ chk m = 0 := by
  obtain ⟨ha, hn0, hnl⟩ := kErrF_inv h
  obtain ⟨c0, hr0, k, s, n2, o, t, hk, hk16, hs, hu, hg, hso, hat, hown2, ho2, hob, hoo, ht, htt, hkinds, hfl⟩ := asked_ok ha
  obtain ⟨i, rfl⟩ := Int.eq_ofNat_of_zero_le hn0
  rw [hkinds] at hnl
  have hi : i < o.fs.length := by omega
  have hx : o.fs[i]? = some o.fs[i] := List.getElem?_eq_getElem hi
  refine ⟨i, n2, o, o.fs[i], rfl, hown2, ho2, hx, ?_, c0⟩
  show (ob m (own m sl)).fs.getD (i : Int).toNat 0 = _
  rw [hown2, hob, Int.toNat_natCast, List.getD_eq_getElem?_getD, hx]; rfl
set_option maxRecDepth 100000 in
set_option maxHeartbeats 4000000 in
theorem Get20_any (tv ov sv : Value) (m : Mo) (sl g n : Int) (v : UInt64) (r : Int) (hv : v = getV m sl g n) (hr : r = getE m sl g n) (w : World) (h : Mod w tv ov sv m) :
    Calls Try.prog 11 #[.agg #[tv, ov, sv], .agg #[.int .i64 sl, .int .i64 g], .int .i64 n] w fun e w' => e = .returned (.tuple #[.int .u64 v.toNat, .int .i64 r]) ∧ Below w.heap.size w w' := by
  have B : Below w.heap.size w w := Below.refl _ _
  have H := Lib.hid h
  by_cases h0 : kErrF m sl g n = 0
  · obtain ⟨i, n', o, x, rfl, hown, ho, hx, hfx, _⟩ := fld_ok h0
    obtain ⟨kd, hkd⟩ : ∃ kd, kd = kind m sl g i := ⟨_, rfl⟩
    have FT := Lib.hid (fun w h => field_ok tv ov sv m sl g i kd o n' h0 hkd hown ho w h)
    have HO := Lib.hid (And.intro ho hx)
    by_cases hk : kd.toNat = 3
    · have hr1 : r = 42 := by rw [hr, getE, if_pos h0, ← hkd, if_pos hk]
      have hv1 : v = 0 := by rw [hv, getV, ← hr, hr1]; rfl
      have k3 : ((kd.toNat : Int) == 3) = true := by rw [beq_iff_eq]; omega
      subst hr1; subst hv1
      clear hr hv h0 hown ho hx hfx hkd hk h
      go_enter Try.func11, Try.ntmps11
      go_upto_region 1 with (fail)
      refine wp_gen (fun Wv => Bx Wv (w.heap.size) (26) (#[tv, ov, sv]) ∧ Bx Wv (w.heap.size + 1) (28) (#[.int .i64 sl, .int .i64 g]) ∧ Below w.heap.size w Wv) ⟨(((Bx.at_ (by simp)).alloc _)), ((Bx.at_ (by simp))), (((Below.refl _ w).alloc (by simp <;> omega) _).alloc (by simp <;> omega) _)⟩ ?_
      rintro wa1 ⟨g1, g2, b⟩
      replace B := B.trans (b.mono B.size); clear b
      have c_g1 := g1.cell; have f_g1 := g1.free; have a_g1 := fun o => (g1.alloc o).cell; have d_g1 := fun o o2 => ((g1.alloc o).alloc o2).cell; have e_g1 := fun o => (g1.alloc o).free
      have c_g2 := g2.cell; have f_g2 := g2.free; have a_g2 := fun o => (g2.alloc o).cell; have d_g2 := fun o o2 => ((g2.alloc o).alloc o2).cell; have e_g2 := fun o => (g2.alloc o).free
      go_wp2_with fail
      refine (FT.out _ (H.out.below B)).mono ?_
      rintro e wa2 ⟨t', o', s', gf, rfl, om, of_, b⟩
      try clear c_g1 f_g1 a_g1 d_g1 e_g1
      replace g1 := g1.below b; have c_g1 := g1.cell; have f_g1 := g1.free; have a_g1 := fun o => (g1.alloc o).cell; have d_g1 := fun o o2 => ((g1.alloc o).alloc o2).cell; have e_g1 := fun o => (g1.alloc o).free; try clear c_g2 f_g2 a_g2 d_g2 e_g2
      replace g2 := g2.below b; have c_g2 := g2.cell; have f_g2 := g2.free; have a_g2 := fun o => (g2.alloc o).cell; have d_g2 := fun o o2 => ((g2.alloc o).alloc o2).cell; have e_g2 := fun o => (g2.alloc o).free; replace B := B.trans (b.mono B.size); clear b
      obtain ⟨⟨tA, tn, tc, rfl⟩, ⟨oA, on, oc, rfl⟩, ⟨sA, sn, sc, rfl⟩⟩ := om.forms
      clear om of_
      go_upto_region 2 with (fail)
      refine wp_gen (fun Wv => Bx Wv (wa2.heap.size) (26) (#[.slice tA tn tc, .slice oA on oc, .slice sA sn sc]) ∧ Below wa2.heap.size wa2 Wv) ⟨((Bx.at_ (by simp))), ((Below.refl _ wa2).alloc (by simp <;> omega) _)⟩ ?_
      rintro wa3 ⟨g4, b⟩
      try clear c_g1 f_g1 a_g1 d_g1 e_g1
      replace g1 := g1.below b; have c_g1 := g1.cell; have f_g1 := g1.free; have a_g1 := fun o => (g1.alloc o).cell; have d_g1 := fun o o2 => ((g1.alloc o).alloc o2).cell; have e_g1 := fun o => (g1.alloc o).free; try clear c_g2 f_g2 a_g2 d_g2 e_g2
      replace g2 := g2.below b; have c_g2 := g2.cell; have f_g2 := g2.free; have a_g2 := fun o => (g2.alloc o).cell; have d_g2 := fun o o2 => ((g2.alloc o).alloc o2).cell; have e_g2 := fun o => (g2.alloc o).free; replace B := B.trans (b.mono B.size); clear b
      have c_g4 := g4.cell; have f_g4 := g4.free; have a_g4 := fun o => (g4.alloc o).cell; have d_g4 := fun o o2 => ((g4.alloc o).alloc o2).cell; have e_g4 := fun o => (g4.alloc o).free
      go_wp2
      go_ret2
      exact ⟨rfl, B⟩
    · have hr1 : r = 0 := by rw [hr, getE, if_pos h0, ← hkd, if_neg hk]
      have hv1 : v = x := by rw [hv, getV, ← hr, hr1, if_pos rfl, hfx]
      have k3 : ((kd.toNat : Int) == 3) = false := by rw [beq_eq_false_iff_ne]; omega
      subst hr1; subst hv1
      clear hr hv h0 hown ho hx hfx hkd hk h
      go_enter Try.func11, Try.ntmps11
      go_upto_region 1 with (fail)
      refine wp_gen (fun Wv => Bx Wv (w.heap.size) (26) (#[tv, ov, sv]) ∧ Bx Wv (w.heap.size + 1) (28) (#[.int .i64 sl, .int .i64 g]) ∧ Below w.heap.size w Wv) ⟨(((Bx.at_ (by simp)).alloc _)), ((Bx.at_ (by simp))), (((Below.refl _ w).alloc (by simp <;> omega) _).alloc (by simp <;> omega) _)⟩ ?_
      rintro wa1 ⟨g1, g2, b⟩
      replace B := B.trans (b.mono B.size); clear b
      have c_g1 := g1.cell; have f_g1 := g1.free; have a_g1 := fun o => (g1.alloc o).cell; have d_g1 := fun o o2 => ((g1.alloc o).alloc o2).cell; have e_g1 := fun o => (g1.alloc o).free
      have c_g2 := g2.cell; have f_g2 := g2.free; have a_g2 := fun o => (g2.alloc o).cell; have d_g2 := fun o o2 => ((g2.alloc o).alloc o2).cell; have e_g2 := fun o => (g2.alloc o).free
      go_wp2_with fail
      refine (FT.out _ (H.out.below B)).mono ?_
      rintro e wa2 ⟨t', o', s', gf, rfl, om, of_, b⟩
      try clear c_g1 f_g1 a_g1 d_g1 e_g1
      replace g1 := g1.below b; have c_g1 := g1.cell; have f_g1 := g1.free; have a_g1 := fun o => (g1.alloc o).cell; have d_g1 := fun o o2 => ((g1.alloc o).alloc o2).cell; have e_g1 := fun o => (g1.alloc o).free; try clear c_g2 f_g2 a_g2 d_g2 e_g2
      replace g2 := g2.below b; have c_g2 := g2.cell; have f_g2 := g2.free; have a_g2 := fun o => (g2.alloc o).cell; have d_g2 := fun o o2 => ((g2.alloc o).alloc o2).cell; have e_g2 := fun o => (g2.alloc o).free; replace B := B.trans (b.mono B.size); clear b
      obtain ⟨⟨tA, tn, tc, rfl⟩, ⟨oA, on, oc, rfl⟩, ⟨sA, sn, sc, rfl⟩⟩ := om.forms
      have m0 := (of_.cell HO.out.1 HO.out.2).1
      clear om of_
      go_upto_region 2 with (fail)
      refine wp_gen (fun Wv => Bx Wv (wa2.heap.size) (26) (#[.slice tA tn tc, .slice oA on oc, .slice sA sn sc]) ∧ Below wa2.heap.size wa2 Wv) ⟨((Bx.at_ (by simp))), ((Below.refl _ wa2).alloc (by simp <;> omega) _)⟩ ?_
      rintro wa3 ⟨g4, b⟩
      replace m0 := cell_later b m0; replace B := B.trans (b.mono B.size); clear b
      have c_g4 := g4.cell; have f_g4 := g4.free; have a_g4 := fun o => (g4.alloc o).cell; have d_g4 := fun o o2 => ((g4.alloc o).alloc o2).cell; have e_g4 := fun o => (g4.alloc o).free
      go_wp2
      go_ret2
      exact ⟨rfl, B⟩
  · have hr1 : r = kErrF m sl g n := by rw [hr, getE, if_neg h0]
    have hv1 : v = 0 := by rw [hv, getV, ← hr, hr1, if_neg h0]
    have FT := Lib.hid (fun w h => field_no tv ov sv m sl g n r hr1 (by rw [hr1]; exact h0) w h)
    have hne : (r != 0) = true := by rw [bne_iff_ne, hr1]; exact h0
    subst hv1
    clear hr hv hr1 h0 h
    go_enter Try.func11, Try.ntmps11
    go_upto_region 1 with (fail)
    refine wp_gen (fun Wv => Bx Wv (w.heap.size) (26) (#[tv, ov, sv]) ∧ Bx Wv (w.heap.size + 1) (28) (#[.int .i64 sl, .int .i64 g]) ∧ Below w.heap.size w Wv) ⟨(((Bx.at_ (by simp)).alloc _)), ((Bx.at_ (by simp))), (((Below.refl _ w).alloc (by simp <;> omega) _).alloc (by simp <;> omega) _)⟩ ?_
    rintro wa1 ⟨g1, g2, b⟩
    replace B := B.trans (b.mono B.size); clear b
    have c_g1 := g1.cell; have f_g1 := g1.free; have a_g1 := fun o => (g1.alloc o).cell; have d_g1 := fun o o2 => ((g1.alloc o).alloc o2).cell; have e_g1 := fun o => (g1.alloc o).free
    have c_g2 := g2.cell; have f_g2 := g2.free; have a_g2 := fun o => (g2.alloc o).cell; have d_g2 := fun o o2 => ((g2.alloc o).alloc o2).cell; have e_g2 := fun o => (g2.alloc o).free
    go_wp2_with fail
    refine (FT.out _ (H.out.below B)).mono ?_
    rintro e wa2 ⟨rfl, b⟩
    try clear c_g1 f_g1 a_g1 d_g1 e_g1
    replace g1 := g1.below b; have c_g1 := g1.cell; have f_g1 := g1.free; have a_g1 := fun o => (g1.alloc o).cell; have d_g1 := fun o o2 => ((g1.alloc o).alloc o2).cell; have e_g1 := fun o => (g1.alloc o).free; try clear c_g2 f_g2 a_g2 d_g2 e_g2
    replace g2 := g2.below b; have c_g2 := g2.cell; have f_g2 := g2.free; have a_g2 := fun o => (g2.alloc o).cell; have d_g2 := fun o o2 => ((g2.alloc o).alloc o2).cell; have e_g2 := fun o => (g2.alloc o).free; replace B := B.trans (b.mono B.size); clear b
    go_upto_region 2 with (fail)
    refine wp_gen (fun Wv => Bx Wv (wa2.heap.size) (26) (#[.slice none 0 0, .slice none 0 0, .slice none 0 0]) ∧ Below wa2.heap.size wa2 Wv) ⟨((Bx.at_ (by simp))), ((Below.refl _ wa2).alloc (by simp <;> omega) _)⟩ ?_
    rintro wa3 ⟨g4, b⟩
    try clear c_g1 f_g1 a_g1 d_g1 e_g1
    replace g1 := g1.below b; have c_g1 := g1.cell; have f_g1 := g1.free; have a_g1 := fun o => (g1.alloc o).cell; have d_g1 := fun o o2 => ((g1.alloc o).alloc o2).cell; have e_g1 := fun o => (g1.alloc o).free; try clear c_g2 f_g2 a_g2 d_g2 e_g2
    replace g2 := g2.below b; have c_g2 := g2.cell; have f_g2 := g2.free; have a_g2 := fun o => (g2.alloc o).cell; have d_g2 := fun o o2 => ((g2.alloc o).alloc o2).cell; have e_g2 := fun o => (g2.alloc o).free; replace B := B.trans (b.mono B.size); clear b
    have c_g4 := g4.cell; have f_g4 := g4.free; have a_g4 := fun o => (g4.alloc o).cell; have d_g4 := fun o o2 => ((g4.alloc o).alloc o2).cell; have e_g4 := fun o => (g4.alloc o).free
    go_wp2
    go_ret2
    exact ⟨rfl, B⟩
set_option maxRecDepth 100000 in
set_option maxHeartbeats 4000000 in
theorem Set20_any (tv ov sv : Value) (m : Mo) (sl g n : Int) (x : UInt64) (M : Mo) (r : Int) (hM : M = setM m sl g n x) (hr : r = getE m sl g n) (w : World) (h : Mod w tv ov sv m) :
    Calls Try.prog 13 #[.agg #[tv, ov, sv], .agg #[.int .i64 sl, .int .i64 g], .int .i64 n, .int .u64 x.toNat] w fun e w' => ∃ t' o' s', e = .returned (.tuple #[.agg #[t', o', s'], .int .i64 r]) ∧ Mod w' t' o' s' M ∧ Below w.heap.size w w' := by
  have B : Below w.heap.size w w := Below.refl _ _
  have H := Lib.hid h
  by_cases h0 : kErrF m sl g n = 0
  · obtain ⟨i, n', o, x0, rfl, hown, ho, hx, hfx, _⟩ := fld_ok h0
    obtain ⟨kd, hkd⟩ : ∃ kd, kd = kind m sl g i := ⟨_, rfl⟩
    have FT := Lib.hid (fun w h => field_ok tv ov sv m sl g i kd o n' h0 hkd hown ho w h)
    have HO := Lib.hid (And.intro ho hx)
    by_cases hk : kd.toNat = 3
    · have hr1 : r = 42 := by rw [hr, getE, if_pos h0, ← hkd, if_pos hk]
      have hM1 : M = .nil := by rw [hM, setM, ← hr, hr1]; rfl
      have k3 : ((kd.toNat : Int) == 3) = true := by rw [beq_iff_eq]; omega
      subst hr1; subst hM1
      clear hr hM h0 hown ho hx hfx hkd hk h
      go_enter Try.func13, Try.ntmps13
      go_upto_region 1 with (fail)
      refine wp_gen (fun Wv => Bx Wv (w.heap.size) (26) (#[tv, ov, sv]) ∧ Bx Wv (w.heap.size + 1) (28) (#[.int .i64 sl, .int .i64 g]) ∧ Bx Wv (w.heap.size + 1 + 1) (26) (#[.slice none 0 0, .slice none 0 0, .slice none 0 0]) ∧ Below w.heap.size w Wv) ⟨((((Bx.at_ (by simp)).alloc _).alloc _)), (((Bx.at_ (by simp)).alloc _)), ((Bx.at_ (by simp))), ((((Below.refl _ w).alloc (by simp <;> omega) _).alloc (by simp <;> omega) _).alloc (by simp <;> omega) _)⟩ ?_
      rintro wa1 ⟨g1, g2, g3, b⟩
      replace B := B.trans (b.mono B.size); clear b
      have c_g1 := g1.cell; have f_g1 := g1.free; have a_g1 := fun o => (g1.alloc o).cell; have d_g1 := fun o o2 => ((g1.alloc o).alloc o2).cell; have e_g1 := fun o => (g1.alloc o).free
      have c_g2 := g2.cell; have f_g2 := g2.free; have a_g2 := fun o => (g2.alloc o).cell; have d_g2 := fun o o2 => ((g2.alloc o).alloc o2).cell; have e_g2 := fun o => (g2.alloc o).free
      have c_g3 := g3.cell; have f_g3 := g3.free; have a_g3 := fun o => (g3.alloc o).cell; have d_g3 := fun o o2 => ((g3.alloc o).alloc o2).cell; have e_g3 := fun o => (g3.alloc o).free
      go_wp2_with fail
      refine (FT.out _ (H.out.below B)).mono ?_
      rintro e wa2 ⟨t', o', s', gf, rfl, om, of_, b⟩
      try clear c_g1 f_g1 a_g1 d_g1 e_g1
      replace g1 := g1.below b; have c_g1 := g1.cell; have f_g1 := g1.free; have a_g1 := fun o => (g1.alloc o).cell; have d_g1 := fun o o2 => ((g1.alloc o).alloc o2).cell; have e_g1 := fun o => (g1.alloc o).free; try clear c_g2 f_g2 a_g2 d_g2 e_g2
      replace g2 := g2.below b; have c_g2 := g2.cell; have f_g2 := g2.free; have a_g2 := fun o => (g2.alloc o).cell; have d_g2 := fun o o2 => ((g2.alloc o).alloc o2).cell; have e_g2 := fun o => (g2.alloc o).free; try clear c_g3 f_g3 a_g3 d_g3 e_g3
      replace g3 := g3.below b; have c_g3 := g3.cell; have f_g3 := g3.free; have a_g3 := fun o => (g3.alloc o).cell; have d_g3 := fun o o2 => ((g3.alloc o).alloc o2).cell; have e_g3 := fun o => (g3.alloc o).free; replace B := B.trans (b.mono B.size); clear b
      obtain ⟨⟨tA, tn, tc, rfl⟩, ⟨oA, on, oc, rfl⟩, ⟨sA, sn, sc, rfl⟩⟩ := om.forms
      clear om of_
      go_upto_region 2 with (fail)
      refine wp_gen (fun Wv => Bx Wv (wa2.heap.size) (26) (#[.slice tA tn tc, .slice oA on oc, .slice sA sn sc]) ∧ Below wa2.heap.size wa2 Wv) ⟨((Bx.at_ (by simp))), ((Below.refl _ wa2).alloc (by simp <;> omega) _)⟩ ?_
      rintro wa3 ⟨g4, b⟩
      try clear c_g1 f_g1 a_g1 d_g1 e_g1
      replace g1 := g1.below b; have c_g1 := g1.cell; have f_g1 := g1.free; have a_g1 := fun o => (g1.alloc o).cell; have d_g1 := fun o o2 => ((g1.alloc o).alloc o2).cell; have e_g1 := fun o => (g1.alloc o).free; try clear c_g2 f_g2 a_g2 d_g2 e_g2
      replace g2 := g2.below b; have c_g2 := g2.cell; have f_g2 := g2.free; have a_g2 := fun o => (g2.alloc o).cell; have d_g2 := fun o o2 => ((g2.alloc o).alloc o2).cell; have e_g2 := fun o => (g2.alloc o).free; try clear c_g3 f_g3 a_g3 d_g3 e_g3
      replace g3 := g3.below b; have c_g3 := g3.cell; have f_g3 := g3.free; have a_g3 := fun o => (g3.alloc o).cell; have d_g3 := fun o o2 => ((g3.alloc o).alloc o2).cell; have e_g3 := fun o => (g3.alloc o).free; replace B := B.trans (b.mono B.size); clear b
      have c_g4 := g4.cell; have f_g4 := g4.free; have a_g4 := fun o => (g4.alloc o).cell; have d_g4 := fun o o2 => ((g4.alloc o).alloc o2).cell; have e_g4 := fun o => (g4.alloc o).free
      go_wp2
      refine bodyPost_ret (v := .tuple #[.agg #[.slice none 0 0, .slice none 0 0, .slice none 0 0], .int .i64 42]) (by simp [results, Try.results13, go_sem, c_g3, f_g3]) rfl ?_
      refine ⟨_, _, _, rfl, Mod.nil _, ?_⟩
      (repeat (first | refine Below.setCell ?_ (by first | exact Nat.le_refl _ | (simp <;> omega)) _ | refine Below.alloc ?_ (by first | exact B.size | (have := B.size; simp <;> omega)) _)); exact B
    · have hr1 : r = 0 := by rw [hr, getE, if_pos h0, ← hkd, if_neg hk]
      have hM1 : M = putF m n' i (setV kd x) := by rw [hM, setM, ← hr, hr1, if_pos rfl, L20.put, hown, ← hkd, Int.toNat_natCast]
      have k3 : ((kd.toNat : Int) == 3) = false := by rw [beq_eq_false_iff_ne]; omega
      subst hr1; subst hM1
      obtain ⟨y, hy⟩ : ∃ y, y = setV kd x := ⟨_, rfl⟩
      rw [← hy]
      have hcase : (kd.toNat = 2 ∧ ¬ FloatOk x ∧ y = no) ∨ (kd.toNat = 2 ∧ FloatOk x ∧ y = x) ∨ (kd.toNat ≠ 2 ∧ y = x) := by
        by_cases k2 : kd.toNat = 2
        · by_cases hf : FloatOk x
          · exact .inr (.inl ⟨k2, hf, by rw [hy, setV, if_neg (fun h => h.2 hf)]⟩)
          · exact .inl ⟨k2, hf, by rw [hy, setV, if_pos ⟨k2, hf⟩]⟩
        · exact .inr (.inr ⟨k2, by rw [hy, setV, if_neg (fun h => k2 h.1)]⟩)
      have FL_ := Lib.hid (fun b hb w => float_any x b hb w)
      clear hr hM h0 hown ho hx hfx hkd hk h hy
      rcases hcase with ⟨k2, hf, rfl⟩ | ⟨k2, hf, rfl⟩ | ⟨k2, rfl⟩
      · have q2 : ((kd.toNat : Int) == 2) = true := by rw [beq_iff_eq]; omega
        have FL1 := Lib.hid (FL_.out false (decide_eq_false hf).symm)
        have hno : (L20.no.toNat : Int) = 9221120237041090561 := rfl
        clear k2 hf FL_
        go_enter Try.func13, Try.ntmps13
        go_upto_region 1 with (fail)
        refine wp_gen (fun Wv => Bx Wv (w.heap.size) (26) (#[tv, ov, sv]) ∧ Bx Wv (w.heap.size + 1) (28) (#[.int .i64 sl, .int .i64 g]) ∧ Bx Wv (w.heap.size + 1 + 1) (26) (#[.slice none 0 0, .slice none 0 0, .slice none 0 0]) ∧ Below w.heap.size w Wv) ⟨((((Bx.at_ (by simp)).alloc _).alloc _)), (((Bx.at_ (by simp)).alloc _)), ((Bx.at_ (by simp))), ((((Below.refl _ w).alloc (by simp <;> omega) _).alloc (by simp <;> omega) _).alloc (by simp <;> omega) _)⟩ ?_
        rintro wa1 ⟨g1, g2, g3, b⟩
        replace B := B.trans (b.mono B.size); clear b
        have c_g1 := g1.cell; have f_g1 := g1.free; have a_g1 := fun o => (g1.alloc o).cell; have d_g1 := fun o o2 => ((g1.alloc o).alloc o2).cell; have e_g1 := fun o => (g1.alloc o).free
        have c_g2 := g2.cell; have f_g2 := g2.free; have a_g2 := fun o => (g2.alloc o).cell; have d_g2 := fun o o2 => ((g2.alloc o).alloc o2).cell; have e_g2 := fun o => (g2.alloc o).free
        have c_g3 := g3.cell; have f_g3 := g3.free; have a_g3 := fun o => (g3.alloc o).cell; have d_g3 := fun o o2 => ((g3.alloc o).alloc o2).cell; have e_g3 := fun o => (g3.alloc o).free
        have hp1 := g3.lt
        have hz1 := B.size
        go_wp2_with fail
        refine (FT.out _ (H.out.below B)).mono ?_
        rintro e wa2 ⟨t', o', s', gf, rfl, om, of_, b⟩
        try clear c_g1 f_g1 a_g1 d_g1 e_g1
        replace g1 := g1.below b; have c_g1 := g1.cell; have f_g1 := g1.free; have a_g1 := fun o => (g1.alloc o).cell; have d_g1 := fun o o2 => ((g1.alloc o).alloc o2).cell; have e_g1 := fun o => (g1.alloc o).free; try clear c_g2 f_g2 a_g2 d_g2 e_g2
        replace g2 := g2.below b; have c_g2 := g2.cell; have f_g2 := g2.free; have a_g2 := fun o => (g2.alloc o).cell; have d_g2 := fun o o2 => ((g2.alloc o).alloc o2).cell; have e_g2 := fun o => (g2.alloc o).free; try clear c_g3 f_g3 a_g3 d_g3 e_g3
        replace g3 := g3.below b; have c_g3 := g3.cell; have f_g3 := g3.free; have a_g3 := fun o => (g3.alloc o).cell; have d_g3 := fun o o2 => ((g3.alloc o).alloc o2).cell; have e_g3 := fun o => (g3.alloc o).free; replace B := B.trans (b.mono B.size); clear b
        obtain ⟨⟨tA, tn, tc, rfl⟩, ⟨oA, on, oc, rfl⟩, ⟨sA, sn, sc, rfl⟩⟩ := om.forms
        have hgf := (of_.cell HO.out.1 HO.out.2).2.2
        go_upto_region 2 with (fail)
        refine wp_gen (fun Wv => Bx Wv (wa2.heap.size) (26) (#[.slice tA tn tc, .slice oA on oc, .slice sA sn sc]) ∧ Below wa2.heap.size wa2 Wv) ⟨((Bx.at_ (by simp))), ((Below.refl _ wa2).alloc (by simp <;> omega) _)⟩ ?_
        rintro wa3 ⟨g4, b⟩
        try clear c_g1 f_g1 a_g1 d_g1 e_g1
        replace g1 := g1.below b; have c_g1 := g1.cell; have f_g1 := g1.free; have a_g1 := fun o => (g1.alloc o).cell; have d_g1 := fun o o2 => ((g1.alloc o).alloc o2).cell; have e_g1 := fun o => (g1.alloc o).free; try clear c_g2 f_g2 a_g2 d_g2 e_g2
        replace g2 := g2.below b; have c_g2 := g2.cell; have f_g2 := g2.free; have a_g2 := fun o => (g2.alloc o).cell; have d_g2 := fun o o2 => ((g2.alloc o).alloc o2).cell; have e_g2 := fun o => (g2.alloc o).free; try clear c_g3 f_g3 a_g3 d_g3 e_g3
        replace g3 := g3.below b; have c_g3 := g3.cell; have f_g3 := g3.free; have a_g3 := fun o => (g3.alloc o).cell; have d_g3 := fun o o2 => ((g3.alloc o).alloc o2).cell; have e_g3 := fun o => (g3.alloc o).free; replace om := om.below b; replace of_ := of_.below b; replace B := B.trans (b.mono B.size); clear b
        have c_g4 := g4.cell; have f_g4 := g4.free; have a_g4 := fun o => (g4.alloc o).cell; have d_g4 := fun o o2 => ((g4.alloc o).alloc o2).cell; have e_g4 := fun o => (g4.alloc o).free
        go_wp2_with fail
        refine (FL1.out _).mono ?_
        rintro e wa4 ⟨rfl, b⟩
        try clear c_g1 f_g1 a_g1 d_g1 e_g1
        replace g1 := g1.below b; have c_g1 := g1.cell; have f_g1 := g1.free; have a_g1 := fun o => (g1.alloc o).cell; have d_g1 := fun o o2 => ((g1.alloc o).alloc o2).cell; have e_g1 := fun o => (g1.alloc o).free; try clear c_g2 f_g2 a_g2 d_g2 e_g2
        replace g2 := g2.below b; have c_g2 := g2.cell; have f_g2 := g2.free; have a_g2 := fun o => (g2.alloc o).cell; have d_g2 := fun o o2 => ((g2.alloc o).alloc o2).cell; have e_g2 := fun o => (g2.alloc o).free; try clear c_g3 f_g3 a_g3 d_g3 e_g3
        replace g3 := g3.below b; have c_g3 := g3.cell; have f_g3 := g3.free; have a_g3 := fun o => (g3.alloc o).cell; have d_g3 := fun o o2 => ((g3.alloc o).alloc o2).cell; have e_g3 := fun o => (g3.alloc o).free; replace om := om.below b; replace of_ := of_.below b; try clear c_g4 f_g4 a_g4 d_g4 e_g4
        replace g4 := g4.below b; have c_g4 := g4.cell; have f_g4 := g4.free; have a_g4 := fun o => (g4.alloc o).cell; have d_g4 := fun o o2 => ((g4.alloc o).alloc o2).cell; have e_g4 := fun o => (g4.alloc o).free; replace B := B.trans (b.mono B.size); clear b
        obtain ⟨m0, f0, _⟩ := of_.cell HO.out.1 HO.out.2
        have hfin := OwnM.storeF om of_ HO.out.1 HO.out.2 L20.no
        have r3 := g3.far (p := ⟨gf, i, none⟩) (by show _ ≠ gf; omega) (.int .u64 (UInt64.toNat L20.no))
        have r4 := g4.far (p := ⟨gf, i, none⟩) (by show _ ≠ gf; omega) (.int .u64 (UInt64.toNat L20.no))
        have hb3 := B.setCell (p := ⟨gf, i, none⟩) (by show w.heap.size ≤ gf; omega) (.int .u64 (UInt64.toNat L20.no))
        have HH := Lib.hid (And.intro hfin.1 (And.intro r3 (And.intro r4 hb3)))
        clear hfin r3 r4 hb3
        go_upto_region 9 with (fail)
        refine wp_gen (fun Wv => OwnM Wv wa1.heap.size 67 (.slice tA tn tc) (.slice oA on oc) (.slice sA sn sc) (putF m n' i L20.no) ∧ Bx Wv (w.heap.size + 1 + 1) 26 #[.slice none 0 0, .slice none 0 0, .slice none 0 0] ∧ Bx Wv wa2.heap.size 26 #[.slice tA tn tc, .slice oA on oc, .slice sA sn sc] ∧ Below w.heap.size w Wv) HH.out ?_
        rintro wz ⟨om2, r3, r4, B2⟩
        clear HH om of_ g1 g2 g3 g4 B m0 f0 c_g1 c_g2 f_g1 f_g2 a_g1 a_g2 d_g1 d_g2 e_g1 e_g2 c_g3 f_g3 a_g3 d_g3 e_g3 c_g4 f_g4 a_g4 d_g4 e_g4
        have c3 := r3.cell; have f3 := r3.free; have c4 := r4.cell
        go_wp2
        refine bodyPost_ret (v := .tuple #[.agg #[.slice tA tn tc, .slice oA on oc, .slice sA sn sc], .int .i64 0]) (by simp [results, Try.results13, go_sem, c3, f3]) rfl ?_
        refine ⟨_, _, _, rfl, (OwnM.set3 om2 r3).rd, ?_⟩
        exact ((B2.setCell (p := ⟨w.heap.size + 1 + 1, 0, none⟩) (by simp; omega) _).setCell (p := ⟨w.heap.size + 1 + 1, 1, none⟩) (by simp; omega) _).setCell (p := ⟨w.heap.size + 1 + 1, 2, none⟩) (by simp; omega) _
      · have q2 : ((kd.toNat : Int) == 2) = true := by rw [beq_iff_eq]; omega
        have FL1 := Lib.hid (FL_.out true (decide_eq_true hf).symm)
        clear k2 hf FL_
        go_enter Try.func13, Try.ntmps13
        go_upto_region 1 with (fail)
        refine wp_gen (fun Wv => Bx Wv (w.heap.size) (26) (#[tv, ov, sv]) ∧ Bx Wv (w.heap.size + 1) (28) (#[.int .i64 sl, .int .i64 g]) ∧ Bx Wv (w.heap.size + 1 + 1) (26) (#[.slice none 0 0, .slice none 0 0, .slice none 0 0]) ∧ Below w.heap.size w Wv) ⟨((((Bx.at_ (by simp)).alloc _).alloc _)), (((Bx.at_ (by simp)).alloc _)), ((Bx.at_ (by simp))), ((((Below.refl _ w).alloc (by simp <;> omega) _).alloc (by simp <;> omega) _).alloc (by simp <;> omega) _)⟩ ?_
        rintro wa1 ⟨g1, g2, g3, b⟩
        replace B := B.trans (b.mono B.size); clear b
        have c_g1 := g1.cell; have f_g1 := g1.free; have a_g1 := fun o => (g1.alloc o).cell; have d_g1 := fun o o2 => ((g1.alloc o).alloc o2).cell; have e_g1 := fun o => (g1.alloc o).free
        have c_g2 := g2.cell; have f_g2 := g2.free; have a_g2 := fun o => (g2.alloc o).cell; have d_g2 := fun o o2 => ((g2.alloc o).alloc o2).cell; have e_g2 := fun o => (g2.alloc o).free
        have c_g3 := g3.cell; have f_g3 := g3.free; have a_g3 := fun o => (g3.alloc o).cell; have d_g3 := fun o o2 => ((g3.alloc o).alloc o2).cell; have e_g3 := fun o => (g3.alloc o).free
        have hp1 := g3.lt
        have hz1 := B.size
        go_wp2_with fail
        refine (FT.out _ (H.out.below B)).mono ?_
        rintro e wa2 ⟨t', o', s', gf, rfl, om, of_, b⟩
        try clear c_g1 f_g1 a_g1 d_g1 e_g1
        replace g1 := g1.below b; have c_g1 := g1.cell; have f_g1 := g1.free; have a_g1 := fun o => (g1.alloc o).cell; have d_g1 := fun o o2 => ((g1.alloc o).alloc o2).cell; have e_g1 := fun o => (g1.alloc o).free; try clear c_g2 f_g2 a_g2 d_g2 e_g2
        replace g2 := g2.below b; have c_g2 := g2.cell; have f_g2 := g2.free; have a_g2 := fun o => (g2.alloc o).cell; have d_g2 := fun o o2 => ((g2.alloc o).alloc o2).cell; have e_g2 := fun o => (g2.alloc o).free; try clear c_g3 f_g3 a_g3 d_g3 e_g3
        replace g3 := g3.below b; have c_g3 := g3.cell; have f_g3 := g3.free; have a_g3 := fun o => (g3.alloc o).cell; have d_g3 := fun o o2 => ((g3.alloc o).alloc o2).cell; have e_g3 := fun o => (g3.alloc o).free; replace B := B.trans (b.mono B.size); clear b
        obtain ⟨⟨tA, tn, tc, rfl⟩, ⟨oA, on, oc, rfl⟩, ⟨sA, sn, sc, rfl⟩⟩ := om.forms
        have hgf := (of_.cell HO.out.1 HO.out.2).2.2
        go_upto_region 2 with (fail)
        refine wp_gen (fun Wv => Bx Wv (wa2.heap.size) (26) (#[.slice tA tn tc, .slice oA on oc, .slice sA sn sc]) ∧ Below wa2.heap.size wa2 Wv) ⟨((Bx.at_ (by simp))), ((Below.refl _ wa2).alloc (by simp <;> omega) _)⟩ ?_
        rintro wa3 ⟨g4, b⟩
        try clear c_g1 f_g1 a_g1 d_g1 e_g1
        replace g1 := g1.below b; have c_g1 := g1.cell; have f_g1 := g1.free; have a_g1 := fun o => (g1.alloc o).cell; have d_g1 := fun o o2 => ((g1.alloc o).alloc o2).cell; have e_g1 := fun o => (g1.alloc o).free; try clear c_g2 f_g2 a_g2 d_g2 e_g2
        replace g2 := g2.below b; have c_g2 := g2.cell; have f_g2 := g2.free; have a_g2 := fun o => (g2.alloc o).cell; have d_g2 := fun o o2 => ((g2.alloc o).alloc o2).cell; have e_g2 := fun o => (g2.alloc o).free; try clear c_g3 f_g3 a_g3 d_g3 e_g3
        replace g3 := g3.below b; have c_g3 := g3.cell; have f_g3 := g3.free; have a_g3 := fun o => (g3.alloc o).cell; have d_g3 := fun o o2 => ((g3.alloc o).alloc o2).cell; have e_g3 := fun o => (g3.alloc o).free; replace om := om.below b; replace of_ := of_.below b; replace B := B.trans (b.mono B.size); clear b
        have c_g4 := g4.cell; have f_g4 := g4.free; have a_g4 := fun o => (g4.alloc o).cell; have d_g4 := fun o o2 => ((g4.alloc o).alloc o2).cell; have e_g4 := fun o => (g4.alloc o).free
        go_wp2_with fail
        refine (FL1.out _).mono ?_
        rintro e wa4 ⟨rfl, b⟩
        try clear c_g1 f_g1 a_g1 d_g1 e_g1
        replace g1 := g1.below b; have c_g1 := g1.cell; have f_g1 := g1.free; have a_g1 := fun o => (g1.alloc o).cell; have d_g1 := fun o o2 => ((g1.alloc o).alloc o2).cell; have e_g1 := fun o => (g1.alloc o).free; try clear c_g2 f_g2 a_g2 d_g2 e_g2
        replace g2 := g2.below b; have c_g2 := g2.cell; have f_g2 := g2.free; have a_g2 := fun o => (g2.alloc o).cell; have d_g2 := fun o o2 => ((g2.alloc o).alloc o2).cell; have e_g2 := fun o => (g2.alloc o).free; try clear c_g3 f_g3 a_g3 d_g3 e_g3
        replace g3 := g3.below b; have c_g3 := g3.cell; have f_g3 := g3.free; have a_g3 := fun o => (g3.alloc o).cell; have d_g3 := fun o o2 => ((g3.alloc o).alloc o2).cell; have e_g3 := fun o => (g3.alloc o).free; replace om := om.below b; replace of_ := of_.below b; try clear c_g4 f_g4 a_g4 d_g4 e_g4
        replace g4 := g4.below b; have c_g4 := g4.cell; have f_g4 := g4.free; have a_g4 := fun o => (g4.alloc o).cell; have d_g4 := fun o o2 => ((g4.alloc o).alloc o2).cell; have e_g4 := fun o => (g4.alloc o).free; replace B := B.trans (b.mono B.size); clear b
        obtain ⟨m0, f0, _⟩ := of_.cell HO.out.1 HO.out.2
        have hfin := OwnM.storeF om of_ HO.out.1 HO.out.2 y
        have r3 := g3.far (p := ⟨gf, i, none⟩) (by show _ ≠ gf; omega) (.int .u64 (UInt64.toNat y))
        have r4 := g4.far (p := ⟨gf, i, none⟩) (by show _ ≠ gf; omega) (.int .u64 (UInt64.toNat y))
        have hb3 := B.setCell (p := ⟨gf, i, none⟩) (by show w.heap.size ≤ gf; omega) (.int .u64 (UInt64.toNat y))
        have HH := Lib.hid (And.intro hfin.1 (And.intro r3 (And.intro r4 hb3)))
        clear hfin r3 r4 hb3
        go_upto_region 9 with (fail)
        refine wp_gen (fun Wv => OwnM Wv wa1.heap.size 67 (.slice tA tn tc) (.slice oA on oc) (.slice sA sn sc) (putF m n' i y) ∧ Bx Wv (w.heap.size + 1 + 1) 26 #[.slice none 0 0, .slice none 0 0, .slice none 0 0] ∧ Bx Wv wa2.heap.size 26 #[.slice tA tn tc, .slice oA on oc, .slice sA sn sc] ∧ Below w.heap.size w Wv) HH.out ?_
        rintro wz ⟨om2, r3, r4, B2⟩
        clear HH om of_ g1 g2 g3 g4 B m0 f0 c_g1 c_g2 f_g1 f_g2 a_g1 a_g2 d_g1 d_g2 e_g1 e_g2 c_g3 f_g3 a_g3 d_g3 e_g3 c_g4 f_g4 a_g4 d_g4 e_g4
        have c3 := r3.cell; have f3 := r3.free; have c4 := r4.cell
        go_wp2
        refine bodyPost_ret (v := .tuple #[.agg #[.slice tA tn tc, .slice oA on oc, .slice sA sn sc], .int .i64 0]) (by simp [results, Try.results13, go_sem, c3, f3]) rfl ?_
        refine ⟨_, _, _, rfl, (OwnM.set3 om2 r3).rd, ?_⟩
        exact ((B2.setCell (p := ⟨w.heap.size + 1 + 1, 0, none⟩) (by simp; omega) _).setCell (p := ⟨w.heap.size + 1 + 1, 1, none⟩) (by simp; omega) _).setCell (p := ⟨w.heap.size + 1 + 1, 2, none⟩) (by simp; omega) _
      · have q2 : ((kd.toNat : Int) == 2) = false := by rw [beq_eq_false_iff_ne]; omega
        clear k2 FL_
        go_enter Try.func13, Try.ntmps13
        go_upto_region 1 with (fail)
        refine wp_gen (fun Wv => Bx Wv (w.heap.size) (26) (#[tv, ov, sv]) ∧ Bx Wv (w.heap.size + 1) (28) (#[.int .i64 sl, .int .i64 g]) ∧ Bx Wv (w.heap.size + 1 + 1) (26) (#[.slice none 0 0, .slice none 0 0, .slice none 0 0]) ∧ Below w.heap.size w Wv) ⟨((((Bx.at_ (by simp)).alloc _).alloc _)), (((Bx.at_ (by simp)).alloc _)), ((Bx.at_ (by simp))), ((((Below.refl _ w).alloc (by simp <;> omega) _).alloc (by simp <;> omega) _).alloc (by simp <;> omega) _)⟩ ?_
        rintro wa1 ⟨g1, g2, g3, b⟩
        replace B := B.trans (b.mono B.size); clear b
        have c_g1 := g1.cell; have f_g1 := g1.free; have a_g1 := fun o => (g1.alloc o).cell; have d_g1 := fun o o2 => ((g1.alloc o).alloc o2).cell; have e_g1 := fun o => (g1.alloc o).free
        have c_g2 := g2.cell; have f_g2 := g2.free; have a_g2 := fun o => (g2.alloc o).cell; have d_g2 := fun o o2 => ((g2.alloc o).alloc o2).cell; have e_g2 := fun o => (g2.alloc o).free
        have c_g3 := g3.cell; have f_g3 := g3.free; have a_g3 := fun o => (g3.alloc o).cell; have d_g3 := fun o o2 => ((g3.alloc o).alloc o2).cell; have e_g3 := fun o => (g3.alloc o).free
        have hp1 := g3.lt
        have hz1 := B.size
        go_wp2_with fail
        refine (FT.out _ (H.out.below B)).mono ?_
        rintro e wa2 ⟨t', o', s', gf, rfl, om, of_, b⟩
        try clear c_g1 f_g1 a_g1 d_g1 e_g1
        replace g1 := g1.below b; have c_g1 := g1.cell; have f_g1 := g1.free; have a_g1 := fun o => (g1.alloc o).cell; have d_g1 := fun o o2 => ((g1.alloc o).alloc o2).cell; have e_g1 := fun o => (g1.alloc o).free; try clear c_g2 f_g2 a_g2 d_g2 e_g2
        replace g2 := g2.below b; have c_g2 := g2.cell; have f_g2 := g2.free; have a_g2 := fun o => (g2.alloc o).cell; have d_g2 := fun o o2 => ((g2.alloc o).alloc o2).cell; have e_g2 := fun o => (g2.alloc o).free; try clear c_g3 f_g3 a_g3 d_g3 e_g3
        replace g3 := g3.below b; have c_g3 := g3.cell; have f_g3 := g3.free; have a_g3 := fun o => (g3.alloc o).cell; have d_g3 := fun o o2 => ((g3.alloc o).alloc o2).cell; have e_g3 := fun o => (g3.alloc o).free; replace B := B.trans (b.mono B.size); clear b
        obtain ⟨⟨tA, tn, tc, rfl⟩, ⟨oA, on, oc, rfl⟩, ⟨sA, sn, sc, rfl⟩⟩ := om.forms
        have hgf := (of_.cell HO.out.1 HO.out.2).2.2
        go_upto_region 2 with (fail)
        refine wp_gen (fun Wv => Bx Wv (wa2.heap.size) (26) (#[.slice tA tn tc, .slice oA on oc, .slice sA sn sc]) ∧ Below wa2.heap.size wa2 Wv) ⟨((Bx.at_ (by simp))), ((Below.refl _ wa2).alloc (by simp <;> omega) _)⟩ ?_
        rintro wa3 ⟨g4, b⟩
        try clear c_g1 f_g1 a_g1 d_g1 e_g1
        replace g1 := g1.below b; have c_g1 := g1.cell; have f_g1 := g1.free; have a_g1 := fun o => (g1.alloc o).cell; have d_g1 := fun o o2 => ((g1.alloc o).alloc o2).cell; have e_g1 := fun o => (g1.alloc o).free; try clear c_g2 f_g2 a_g2 d_g2 e_g2
        replace g2 := g2.below b; have c_g2 := g2.cell; have f_g2 := g2.free; have a_g2 := fun o => (g2.alloc o).cell; have d_g2 := fun o o2 => ((g2.alloc o).alloc o2).cell; have e_g2 := fun o => (g2.alloc o).free; try clear c_g3 f_g3 a_g3 d_g3 e_g3
        replace g3 := g3.below b; have c_g3 := g3.cell; have f_g3 := g3.free; have a_g3 := fun o => (g3.alloc o).cell; have d_g3 := fun o o2 => ((g3.alloc o).alloc o2).cell; have e_g3 := fun o => (g3.alloc o).free; replace om := om.below b; replace of_ := of_.below b; replace B := B.trans (b.mono B.size); clear b
        have c_g4 := g4.cell; have f_g4 := g4.free; have a_g4 := fun o => (g4.alloc o).cell; have d_g4 := fun o o2 => ((g4.alloc o).alloc o2).cell; have e_g4 := fun o => (g4.alloc o).free
        obtain ⟨m0, f0, _⟩ := of_.cell HO.out.1 HO.out.2
        have hfin := OwnM.storeF om of_ HO.out.1 HO.out.2 y
        have r3 := g3.far (p := ⟨gf, i, none⟩) (by show _ ≠ gf; omega) (.int .u64 (UInt64.toNat y))
        have r4 := g4.far (p := ⟨gf, i, none⟩) (by show _ ≠ gf; omega) (.int .u64 (UInt64.toNat y))
        have hb3 := B.setCell (p := ⟨gf, i, none⟩) (by show w.heap.size ≤ gf; omega) (.int .u64 (UInt64.toNat y))
        have HH := Lib.hid (And.intro hfin.1 (And.intro r3 (And.intro r4 hb3)))
        clear hfin r3 r4 hb3
        go_upto_region 9 with (fail)
        refine wp_gen (fun Wv => OwnM Wv wa1.heap.size 67 (.slice tA tn tc) (.slice oA on oc) (.slice sA sn sc) (putF m n' i y) ∧ Bx Wv (w.heap.size + 1 + 1) 26 #[.slice none 0 0, .slice none 0 0, .slice none 0 0] ∧ Bx Wv wa2.heap.size 26 #[.slice tA tn tc, .slice oA on oc, .slice sA sn sc] ∧ Below w.heap.size w Wv) HH.out ?_
        rintro wz ⟨om2, r3, r4, B2⟩
        clear HH om of_ g1 g2 g3 g4 B m0 f0 c_g1 c_g2 f_g1 f_g2 a_g1 a_g2 d_g1 d_g2 e_g1 e_g2 c_g3 f_g3 a_g3 d_g3 e_g3 c_g4 f_g4 a_g4 d_g4 e_g4
        have c3 := r3.cell; have f3 := r3.free; have c4 := r4.cell
        go_wp2
        refine bodyPost_ret (v := .tuple #[.agg #[.slice tA tn tc, .slice oA on oc, .slice sA sn sc], .int .i64 0]) (by simp [results, Try.results13, go_sem, c3, f3]) rfl ?_
        refine ⟨_, _, _, rfl, (OwnM.set3 om2 r3).rd, ?_⟩
        exact ((B2.setCell (p := ⟨w.heap.size + 1 + 1, 0, none⟩) (by simp; omega) _).setCell (p := ⟨w.heap.size + 1 + 1, 1, none⟩) (by simp; omega) _).setCell (p := ⟨w.heap.size + 1 + 1, 2, none⟩) (by simp; omega) _
  · have hr1 : r = kErrF m sl g n := by rw [hr, getE, if_neg h0]
    have hM1 : M = .nil := by rw [hM, setM, ← hr, hr1, if_neg h0]
    have FT := Lib.hid (fun w h => field_no tv ov sv m sl g n r hr1 (by rw [hr1]; exact h0) w h)
    have hne : (r != 0) = true := by rw [bne_iff_ne, hr1]; exact h0
    subst hM1
    clear hr hM hr1 h0 h
    go_enter Try.func13, Try.ntmps13
    go_upto_region 1 with (fail)
    refine wp_gen (fun Wv => Bx Wv (w.heap.size) (26) (#[tv, ov, sv]) ∧ Bx Wv (w.heap.size + 1) (28) (#[.int .i64 sl, .int .i64 g]) ∧ Bx Wv (w.heap.size + 1 + 1) (26) (#[.slice none 0 0, .slice none 0 0, .slice none 0 0]) ∧ Below w.heap.size w Wv) ⟨((((Bx.at_ (by simp)).alloc _).alloc _)), (((Bx.at_ (by simp)).alloc _)), ((Bx.at_ (by simp))), ((((Below.refl _ w).alloc (by simp <;> omega) _).alloc (by simp <;> omega) _).alloc (by simp <;> omega) _)⟩ ?_
    rintro wa1 ⟨g1, g2, g3, b⟩
    replace B := B.trans (b.mono B.size); clear b
    have c_g1 := g1.cell; have f_g1 := g1.free; have a_g1 := fun o => (g1.alloc o).cell; have d_g1 := fun o o2 => ((g1.alloc o).alloc o2).cell; have e_g1 := fun o => (g1.alloc o).free
    have c_g2 := g2.cell; have f_g2 := g2.free; have a_g2 := fun o => (g2.alloc o).cell; have d_g2 := fun o o2 => ((g2.alloc o).alloc o2).cell; have e_g2 := fun o => (g2.alloc o).free
    have c_g3 := g3.cell; have f_g3 := g3.free; have a_g3 := fun o => (g3.alloc o).cell; have d_g3 := fun o o2 => ((g3.alloc o).alloc o2).cell; have e_g3 := fun o => (g3.alloc o).free
    go_wp2_with fail
    refine (FT.out _ (H.out.below B)).mono ?_
    rintro e wa2 ⟨rfl, b⟩
    try clear c_g1 f_g1 a_g1 d_g1 e_g1
    replace g1 := g1.below b; have c_g1 := g1.cell; have f_g1 := g1.free; have a_g1 := fun o => (g1.alloc o).cell; have d_g1 := fun o o2 => ((g1.alloc o).alloc o2).cell; have e_g1 := fun o => (g1.alloc o).free; try clear c_g2 f_g2 a_g2 d_g2 e_g2
    replace g2 := g2.below b; have c_g2 := g2.cell; have f_g2 := g2.free; have a_g2 := fun o => (g2.alloc o).cell; have d_g2 := fun o o2 => ((g2.alloc o).alloc o2).cell; have e_g2 := fun o => (g2.alloc o).free; try clear c_g3 f_g3 a_g3 d_g3 e_g3
    replace g3 := g3.below b; have c_g3 := g3.cell; have f_g3 := g3.free; have a_g3 := fun o => (g3.alloc o).cell; have d_g3 := fun o o2 => ((g3.alloc o).alloc o2).cell; have e_g3 := fun o => (g3.alloc o).free; replace B := B.trans (b.mono B.size); clear b
    go_upto_region 2 with (fail)
    refine wp_gen (fun Wv => Bx Wv (wa2.heap.size) (26) (#[.slice none 0 0, .slice none 0 0, .slice none 0 0]) ∧ Below wa2.heap.size wa2 Wv) ⟨((Bx.at_ (by simp))), ((Below.refl _ wa2).alloc (by simp <;> omega) _)⟩ ?_
    rintro wa3 ⟨g4, b⟩
    try clear c_g1 f_g1 a_g1 d_g1 e_g1
    replace g1 := g1.below b; have c_g1 := g1.cell; have f_g1 := g1.free; have a_g1 := fun o => (g1.alloc o).cell; have d_g1 := fun o o2 => ((g1.alloc o).alloc o2).cell; have e_g1 := fun o => (g1.alloc o).free; try clear c_g2 f_g2 a_g2 d_g2 e_g2
    replace g2 := g2.below b; have c_g2 := g2.cell; have f_g2 := g2.free; have a_g2 := fun o => (g2.alloc o).cell; have d_g2 := fun o o2 => ((g2.alloc o).alloc o2).cell; have e_g2 := fun o => (g2.alloc o).free; try clear c_g3 f_g3 a_g3 d_g3 e_g3
    replace g3 := g3.below b; have c_g3 := g3.cell; have f_g3 := g3.free; have a_g3 := fun o => (g3.alloc o).cell; have d_g3 := fun o o2 => ((g3.alloc o).alloc o2).cell; have e_g3 := fun o => (g3.alloc o).free; replace B := B.trans (b.mono B.size); clear b
    have c_g4 := g4.cell; have f_g4 := g4.free; have a_g4 := fun o => (g4.alloc o).cell; have d_g4 := fun o o2 => ((g4.alloc o).alloc o2).cell; have e_g4 := fun o => (g4.alloc o).free
    go_wp2
    refine bodyPost_ret (v := .tuple #[.agg #[.slice none 0 0, .slice none 0 0, .slice none 0 0], .int .i64 r]) (by simp [results, Try.results13, go_sem, c_g3, f_g3]) rfl ?_
    refine ⟨_, _, _, rfl, Mod.nil _, ?_⟩
    (repeat (first | refine Below.setCell ?_ (by first | exact Nat.le_refl _ | (simp <;> omega)) _ | refine Below.alloc ?_ (by first | exact B.size | (have := B.size; simp <;> omega)) _)); exact B
end Go.Proofs.Ytgjpohhafmkhcaa
namespace Go.Proofs.Ytgjpohhafmkhcaa
open Go.RowKit L02 L13 L18 L20
/-- a pointer to a handle, or none -/
def PtrH (w : World) (v : Value) (tt : Option (Int × Int)) : Prop := match tt with
  | none => v = .pointer none
  | some t => ∃ g, v = .pointer (some ⟨g, 0, none⟩) ∧ Bx w g 28 #[.int .i64 t.1, .int .i64 t.2]
theorem PtrH.below {w w' : World} {v : Value} {tt : Option (Int × Int)} (h : PtrH w v tt) (hb : Below w.heap.size w w') : PtrH w' v tt := by
  cases tt with
  | none => exact h
  | some t => obtain ⟨g, h1, h2⟩ := h; exact ⟨g, h1, h2.below hb⟩
theorem putF_obj {m : Mo} {n i : Nat} {o : Ob} {x : UInt64} (ho : m.objs[n]? = some o) : (putF m n i x).objs[n]? = some ⟨o.ty, o.fs.set i x⟩ := by
  have hob : ob m n = o := by simp [ob, List.getD_eq_getElem?_getD, ho]
  show (m.objs.set n _)[n]? = _
  rw [List.getElem?_set_self (List.getElem?_eq_some_iff.1 ho).1, hob]
theorem putF_putF {m : Mo} {n i : Nat} {o : Ob} {x y : UInt64} (ho : m.objs[n]? = some o) : putF (putF m n i x) n i y = putF m n i y := by
  have hob : ob m n = o := by simp [ob, List.getD_eq_getElem?_getD, ho]
  have hob2 : ob (putF m n i x) n = ⟨o.ty, o.fs.set i x⟩ := by simp [ob, List.getD_eq_getElem?_getD, putF_obj ho]
  show (⟨(putF m n i x).types, (putF m n i x).objs.set n ⟨(ob (putF m n i x) n).ty, (ob (putF m n i x) n).fs.set i y⟩, (putF m n i x).slots⟩ : Mo) = ⟨m.types, m.objs.set n ⟨(ob m n).ty, (ob m n).fs.set i y⟩, m.slots⟩
  rw [hob2, hob]
  show (⟨m.types, (m.objs.set n ⟨(ob m n).ty, (ob m n).fs.set i x⟩).set n _, m.slots⟩ : Mo) = _
  rw [List.set_set, List.set_set]
/-- the slot of a right handle -/
theorem to_ok {m : Mo} {sl g : Int} (hc : chk m = 0) (h : rightErr m.slots sl g = 0) : ∃ (k : Nat) (s : Sl) (n : Nat), sl = (k : Int) ∧ m.slots[k]? = some s ∧ s.at_ = (n : Int) ∧ own m sl = n ∧ n < 960 := by
  obtain ⟨h1, h2, h3⟩ := chk_ok hc
  obtain ⟨k, s, rfl, hk, hs, hu, hg⟩ := right_ok h
  have hso := h3.2.2.2 s (List.mem_of_getElem? hs)
  obtain ⟨a1, a2, a3⟩ := hso.2.2 hu
  obtain ⟨n, hn⟩ := Int.eq_ofNat_of_zero_le a2
  exact ⟨k, s, n, rfl, hs, hn, by simp [own, List.getD_eq_getElem?_getD, hs, hn], by omega⟩
def wsR (w : World) (g i : Nat) (x : Int) : Nat → World
  | 0 => w.drew
  | _ => w.drew.setCell ⟨g, i, none⟩ (.int .u64 x)
set_option maxRecDepth 100000 in
set_option maxHeartbeats 8000000 in
theorem SetRef20_any (tv ov sv : Value) (m : Mo) (sl g n : Int) (pv : Value) (tt : Option (Int × Int)) (M : Mo) (r : Int) (hM : M = refM m sl g n tt) (hr : r = refE m sl g n tt) (w : World) (h : Mod w tv ov sv m) (hto : PtrH w pv tt) :
    Calls Try.prog 15 #[.agg #[tv, ov, sv], .agg #[.int .i64 sl, .int .i64 g], .int .i64 n, pv] w fun e w' => ∃ t' o' s', e = .returned (.tuple #[.agg #[t', o', s'], .int .i64 r]) ∧ Mod w' t' o' s' M ∧ Below w.heap.size w w' := by
  have B : Below w.heap.size w w := Below.refl _ _
  have H := Lib.hid h
  by_cases h0 : kErrF m sl g n = 0
  · obtain ⟨i, n', o, x0, rfl, hown, ho, hx, hfx, hchk⟩ := fld_ok h0
    obtain ⟨kd, hkd⟩ : ∃ kd, kd = kind m sl g i := ⟨_, rfl⟩
    have FT := Lib.hid (fun w h => field_ok tv ov sv m sl g i kd o n' h0 hkd hown ho w h)
    have HO := Lib.hid (And.intro ho hx)
    by_cases hk : kd.toNat = 3
    · have k3 : ((kd.toNat : Int) != 3) = false := by rw [bne_eq_false_iff_eq]; omega
      cases tt with
      | none =>
        have hr1 : r = 0 := by rw [hr]; unfold refE; rw [if_pos h0, ← hkd, if_pos hk]
        have hM1 : M = putF m n' i 0 := by rw [hM]; unfold refM; rw [← hr, hr1, if_pos rfl, L20.put, hown, Int.toNat_natCast]
        obtain rfl : pv = .pointer none := hto
        subst hr1; subst hM1
        clear hr hM h0 hown ho hx hfx hkd hk h hchk
        go_enter Try.func15, Try.ntmps15
        go_upto_region 1 with (fail)
        refine wp_gen (fun Wv => Bx Wv (w.heap.size) (26) (#[tv, ov, sv]) ∧ Bx Wv (w.heap.size + 1) (28) (#[.int .i64 sl, .int .i64 g]) ∧ Bx Wv (w.heap.size + 1 + 1) (26) (#[.slice none 0 0, .slice none 0 0, .slice none 0 0]) ∧ Below w.heap.size w Wv) ⟨((((Bx.at_ (by simp)).alloc _).alloc _)), (((Bx.at_ (by simp)).alloc _)), ((Bx.at_ (by simp))), ((((Below.refl _ w).alloc (by simp <;> omega) _).alloc (by simp <;> omega) _).alloc (by simp <;> omega) _)⟩ ?_
        rintro wa1 ⟨g1, g2, g3, b⟩
        replace B := B.trans (b.mono B.size); clear b
        have c_g1 := g1.cell; have f_g1 := g1.free; have a_g1 := fun o => (g1.alloc o).cell; have d_g1 := fun o o2 => ((g1.alloc o).alloc o2).cell; have e_g1 := fun o => (g1.alloc o).free
        have c_g2 := g2.cell; have f_g2 := g2.free; have a_g2 := fun o => (g2.alloc o).cell; have d_g2 := fun o o2 => ((g2.alloc o).alloc o2).cell; have e_g2 := fun o => (g2.alloc o).free
        have c_g3 := g3.cell; have f_g3 := g3.free; have a_g3 := fun o => (g3.alloc o).cell; have d_g3 := fun o o2 => ((g3.alloc o).alloc o2).cell; have e_g3 := fun o => (g3.alloc o).free
        have hp1 := g3.lt
        have hz1 := B.size
        go_wp2_with fail
        refine (FT.out _ (H.out.below B)).mono ?_
        rintro e wa2 ⟨t', o', s', gf, rfl, om, of_, b⟩
        try clear c_g1 f_g1 a_g1 d_g1 e_g1
        replace g1 := g1.below b; have c_g1 := g1.cell; have f_g1 := g1.free; have a_g1 := fun o => (g1.alloc o).cell; have d_g1 := fun o o2 => ((g1.alloc o).alloc o2).cell; have e_g1 := fun o => (g1.alloc o).free; try clear c_g2 f_g2 a_g2 d_g2 e_g2
        replace g2 := g2.below b; have c_g2 := g2.cell; have f_g2 := g2.free; have a_g2 := fun o => (g2.alloc o).cell; have d_g2 := fun o o2 => ((g2.alloc o).alloc o2).cell; have e_g2 := fun o => (g2.alloc o).free; try clear c_g3 f_g3 a_g3 d_g3 e_g3
        replace g3 := g3.below b; have c_g3 := g3.cell; have f_g3 := g3.free; have a_g3 := fun o => (g3.alloc o).cell; have d_g3 := fun o o2 => ((g3.alloc o).alloc o2).cell; have e_g3 := fun o => (g3.alloc o).free; replace B := B.trans (b.mono B.size); clear b
        obtain ⟨⟨tA, tn, tc, rfl⟩, ⟨oA, on, oc, rfl⟩, ⟨sA, sn, sc, rfl⟩⟩ := om.forms
        have hgf := (of_.cell HO.out.1 HO.out.2).2.2
        go_upto_region 2 with (fail)
        refine wp_gen (fun Wv => Bx Wv (wa2.heap.size) (26) (#[.slice tA tn tc, .slice oA on oc, .slice sA sn sc]) ∧ Below wa2.heap.size wa2 Wv) ⟨((Bx.at_ (by simp))), ((Below.refl _ wa2).alloc (by simp <;> omega) _)⟩ ?_
        rintro wa3 ⟨g4, b⟩
        try clear c_g1 f_g1 a_g1 d_g1 e_g1
        replace g1 := g1.below b; have c_g1 := g1.cell; have f_g1 := g1.free; have a_g1 := fun o => (g1.alloc o).cell; have d_g1 := fun o o2 => ((g1.alloc o).alloc o2).cell; have e_g1 := fun o => (g1.alloc o).free; try clear c_g2 f_g2 a_g2 d_g2 e_g2
        replace g2 := g2.below b; have c_g2 := g2.cell; have f_g2 := g2.free; have a_g2 := fun o => (g2.alloc o).cell; have d_g2 := fun o o2 => ((g2.alloc o).alloc o2).cell; have e_g2 := fun o => (g2.alloc o).free; try clear c_g3 f_g3 a_g3 d_g3 e_g3
        replace g3 := g3.below b; have c_g3 := g3.cell; have f_g3 := g3.free; have a_g3 := fun o => (g3.alloc o).cell; have d_g3 := fun o o2 => ((g3.alloc o).alloc o2).cell; have e_g3 := fun o => (g3.alloc o).free; replace om := om.below b; replace of_ := of_.below b; replace B := B.trans (b.mono B.size); clear b
        have c_g4 := g4.cell; have f_g4 := g4.free; have a_g4 := fun o => (g4.alloc o).cell; have d_g4 := fun o o2 => ((g4.alloc o).alloc o2).cell; have e_g4 := fun o => (g4.alloc o).free
        obtain ⟨m0, f0, _⟩ := of_.cell HO.out.1 HO.out.2
        have hfin := OwnM.storeF om of_ HO.out.1 HO.out.2 0
        have r1 := g1.far (p := ⟨gf, i, none⟩) (by show _ ≠ gf; omega) (.int .u64 (UInt64.toNat 0))
        have r3 := g3.far (p := ⟨gf, i, none⟩) (by show _ ≠ gf; omega) (.int .u64 (UInt64.toNat 0))
        have r4 := g4.far (p := ⟨gf, i, none⟩) (by show _ ≠ gf; omega) (.int .u64 (UInt64.toNat 0))
        have hb3 := B.setCell (p := ⟨gf, i, none⟩) (by show w.heap.size ≤ gf; omega) (.int .u64 (UInt64.toNat 0))
        have HH := Lib.hid (And.intro hfin.1 (And.intro hfin.2.1 (And.intro r1 (And.intro r3 (And.intro r4 hb3)))))
        clear hfin r1 r3 r4 hb3
        go_upto_region 7 with (fail)
        refine wp_gen (fun Wv => OwnM Wv wa1.heap.size 67 (.slice tA tn tc) (.slice oA on oc) (.slice sA sn sc) (putF m n' i 0) ∧ OwnF Wv wa1.heap.size (.slice oA on oc) (putF m n' i 0).objs n' gf ∧ Bx Wv w.heap.size 26 #[tv, ov, sv] ∧ Bx Wv (w.heap.size + 1 + 1) 26 #[.slice none 0 0, .slice none 0 0, .slice none 0 0] ∧ Bx Wv wa2.heap.size 26 #[.slice tA tn tc, .slice oA on oc, .slice sA sn sc] ∧ Below w.heap.size w Wv) HH.out ?_
        rintro wz ⟨om2, of2, r1, r3, r4, B2⟩
        clear HH om of_ g1 g2 g3 g4 B m0 f0 c_g1 c_g2 f_g1 f_g2 a_g1 a_g2 d_g1 d_g2 e_g1 e_g2 c_g3 f_g3 a_g3 d_g3 e_g3 c_g4 f_g4 a_g4 d_g4 e_g4
        have c1 := r1.cell; have c3 := r3.cell; have f3 := r3.free; have c4 := r4.cell
        go_wp2
        refine bodyPost_ret (v := .tuple #[.agg #[.slice tA tn tc, .slice oA on oc, .slice sA sn sc], .int .i64 0]) (by simp [results, Try.results15, go_sem, c3, f3]) rfl ?_
        refine ⟨_, _, _, rfl, (OwnM.set3 om2 r3).rd, ?_⟩
        exact ((B2.setCell (p := ⟨w.heap.size + 1 + 1, 0, none⟩) (by simp; omega) _).setCell (p := ⟨w.heap.size + 1 + 1, 1, none⟩) (by simp; omega) _).setCell (p := ⟨w.heap.size + 1 + 1, 2, none⟩) (by simp; omega) _
      | some t =>
        obtain ⟨tg, rfl, hbt⟩ := hto
        obtain ⟨ta, tb⟩ := t
        dsimp only at hbt
        by_cases hre : rightErr m.slots ta tb = 0
        · have hr1 : r = 0 := by rw [hr]; unfold refE; rw [if_pos h0, ← hkd, if_pos hk]; exact hre
          obtain ⟨k2, s2, n2, rfl, hs2, hat2, hown2, hn2⟩ := to_ok hchk hre
          have hM1 : M = putF m n' i (UInt64.ofNat (n2 + 1)) := by rw [hM]; unfold refM; rw [← hr, hr1, if_pos rfl, L20.put, hown, Int.toNat_natCast]; show putF m n' i (UInt64.ofNat (own m (k2 : Int) + 1)) = _; rw [hown2]
          have FD := Lib.hid (fun w h => find20_any tv ov sv m k2 tb 0 hre.symm w h)
          obtain ⟨y, hy⟩ : ∃ y, y = UInt64.ofNat (n2 + 1) := ⟨_, rfl⟩
          rw [← hy] at hM1
          have hyn : (y.toNat : Int) = (n2 : Int) + 1 := by rw [hy, UInt64.toNat_ofNat', Nat.mod_eq_of_lt (by omega)]; rfl
          subst hr1; subst hM1
          have HS2 := Lib.hid hs2
          clear hr hM h0 hown ho hx hfx hkd hk h hchk hre hown2 hy hs2
          go_enter Try.func15, Try.ntmps15
          go_upto_region 1 with (fail)
          refine wp_gen (fun Wv => Bx Wv (w.heap.size) (26) (#[tv, ov, sv]) ∧ Bx Wv (w.heap.size + 1) (28) (#[.int .i64 sl, .int .i64 g]) ∧ Bx Wv (w.heap.size + 1 + 1) (26) (#[.slice none 0 0, .slice none 0 0, .slice none 0 0]) ∧ Below w.heap.size w Wv) ⟨((((Bx.at_ (by simp)).alloc _).alloc _)), (((Bx.at_ (by simp)).alloc _)), ((Bx.at_ (by simp))), ((((Below.refl _ w).alloc (by simp <;> omega) _).alloc (by simp <;> omega) _).alloc (by simp <;> omega) _)⟩ ?_
          rintro wa1 ⟨g1, g2, g3, b⟩
          replace B := B.trans (b.mono B.size); clear b
          have c_g1 := g1.cell; have f_g1 := g1.free; have a_g1 := fun o => (g1.alloc o).cell; have d_g1 := fun o o2 => ((g1.alloc o).alloc o2).cell; have e_g1 := fun o => (g1.alloc o).free
          have c_g2 := g2.cell; have f_g2 := g2.free; have a_g2 := fun o => (g2.alloc o).cell; have d_g2 := fun o o2 => ((g2.alloc o).alloc o2).cell; have e_g2 := fun o => (g2.alloc o).free
          have c_g3 := g3.cell; have f_g3 := g3.free; have a_g3 := fun o => (g3.alloc o).cell; have d_g3 := fun o o2 => ((g3.alloc o).alloc o2).cell; have e_g3 := fun o => (g3.alloc o).free
          have hp1 := g3.lt
          have hz1 := B.size
          go_wp2_with fail
          refine (FT.out _ (H.out.below B)).mono ?_
          rintro e wa2 ⟨t', o', s', gf, rfl, om, of_, b⟩
          try clear c_g1 f_g1 a_g1 d_g1 e_g1
          replace g1 := g1.below b; have c_g1 := g1.cell; have f_g1 := g1.free; have a_g1 := fun o => (g1.alloc o).cell; have d_g1 := fun o o2 => ((g1.alloc o).alloc o2).cell; have e_g1 := fun o => (g1.alloc o).free; try clear c_g2 f_g2 a_g2 d_g2 e_g2
          replace g2 := g2.below b; have c_g2 := g2.cell; have f_g2 := g2.free; have a_g2 := fun o => (g2.alloc o).cell; have d_g2 := fun o o2 => ((g2.alloc o).alloc o2).cell; have e_g2 := fun o => (g2.alloc o).free; try clear c_g3 f_g3 a_g3 d_g3 e_g3
          replace g3 := g3.below b; have c_g3 := g3.cell; have f_g3 := g3.free; have a_g3 := fun o => (g3.alloc o).cell; have d_g3 := fun o o2 => ((g3.alloc o).alloc o2).cell; have e_g3 := fun o => (g3.alloc o).free; replace B := B.trans (b.mono B.size); clear b
          obtain ⟨⟨tA, tn, tc, rfl⟩, ⟨oA, on, oc, rfl⟩, ⟨sA, sn, sc, rfl⟩⟩ := om.forms
          have hgf := (of_.cell HO.out.1 HO.out.2).2.2
          go_upto_region 2 with (fail)
          refine wp_gen (fun Wv => Bx Wv (wa2.heap.size) (26) (#[.slice tA tn tc, .slice oA on oc, .slice sA sn sc]) ∧ Below wa2.heap.size wa2 Wv) ⟨((Bx.at_ (by simp))), ((Below.refl _ wa2).alloc (by simp <;> omega) _)⟩ ?_
          rintro wa3 ⟨g4, b⟩
          try clear c_g1 f_g1 a_g1 d_g1 e_g1
          replace g1 := g1.below b; have c_g1 := g1.cell; have f_g1 := g1.free; have a_g1 := fun o => (g1.alloc o).cell; have d_g1 := fun o o2 => ((g1.alloc o).alloc o2).cell; have e_g1 := fun o => (g1.alloc o).free; try clear c_g2 f_g2 a_g2 d_g2 e_g2
          replace g2 := g2.below b; have c_g2 := g2.cell; have f_g2 := g2.free; have a_g2 := fun o => (g2.alloc o).cell; have d_g2 := fun o o2 => ((g2.alloc o).alloc o2).cell; have e_g2 := fun o => (g2.alloc o).free; try clear c_g3 f_g3 a_g3 d_g3 e_g3
          replace g3 := g3.below b; have c_g3 := g3.cell; have f_g3 := g3.free; have a_g3 := fun o => (g3.alloc o).cell; have d_g3 := fun o o2 => ((g3.alloc o).alloc o2).cell; have e_g3 := fun o => (g3.alloc o).free; replace om := om.below b; replace of_ := of_.below b; replace B := B.trans (b.mono B.size); clear b
          have c_g4 := g4.cell; have f_g4 := g4.free; have a_g4 := fun o => (g4.alloc o).cell; have d_g4 := fun o o2 => ((g4.alloc o).alloc o2).cell; have e_g4 := fun o => (g4.alloc o).free
          obtain ⟨m0, f0, _⟩ := of_.cell HO.out.1 HO.out.2
          have hfin := OwnM.storeF om of_ HO.out.1 HO.out.2 0
          have r1 := g1.far (p := ⟨gf, i, none⟩) (by show _ ≠ gf; omega) (.int .u64 (UInt64.toNat 0))
          have r3 := g3.far (p := ⟨gf, i, none⟩) (by show _ ≠ gf; omega) (.int .u64 (UInt64.toNat 0))
          have r4 := g4.far (p := ⟨gf, i, none⟩) (by show _ ≠ gf; omega) (.int .u64 (UInt64.toNat 0))
          have hb3 := B.setCell (p := ⟨gf, i, none⟩) (by show w.heap.size ≤ gf; omega) (.int .u64 (UInt64.toNat 0))
          have HH := Lib.hid (And.intro hfin.1 (And.intro hfin.2.1 (And.intro r1 (And.intro r3 (And.intro r4 hb3)))))
          clear hfin r1 r3 r4 hb3
          go_upto_region 7 with (fail)
          refine wp_gen (fun Wv => OwnM Wv wa1.heap.size 67 (.slice tA tn tc) (.slice oA on oc) (.slice sA sn sc) (putF m n' i 0) ∧ OwnF Wv wa1.heap.size (.slice oA on oc) (putF m n' i 0).objs n' gf ∧ Bx Wv w.heap.size 26 #[tv, ov, sv] ∧ Bx Wv (w.heap.size + 1 + 1) 26 #[.slice none 0 0, .slice none 0 0, .slice none 0 0] ∧ Bx Wv wa2.heap.size 26 #[.slice tA tn tc, .slice oA on oc, .slice sA sn sc] ∧ Below w.heap.size w Wv) HH.out ?_
          rintro wz ⟨om2, of2, r1, r3, r4, B2⟩
          clear HH om of_ g1 g2 g3 g4 B m0 f0 c_g1 c_g2 f_g1 f_g2 a_g1 a_g2 d_g1 d_g2 e_g1 e_g2 c_g3 f_g3 a_g3 d_g3 e_g3 c_g4 f_g4 a_g4 d_g4 e_g4
          have c1 := r1.cell; have c3 := r3.cell; have f3 := r3.free; have c4 := r4.cell
          have g1 := r1; have g3 := r3; have g4 := r4; have B := B2
          have g6 := hbt.below B
          have htg := hbt.lt
          clear c1 c3 f3 c4 r1 r3 r4
          have HC := Lib.hid (fun z : Fut wz => H.out.below (B2.trans (z.h.mono B2.size)))
          clear B2
          go_upto_region 8 with (fail)
          refine wp_region_calm (by kernel_rfl) (by kernel_rfl) ?_
          try clear c_g1 f_g1 a_g1 d_g1 e_g1
          have c_g1 := fun x : Fut _ => (g1.below x.h).cell
          try clear c_g3 f_g3 a_g3 d_g3 e_g3
          have c_g3 := fun x : Fut _ => (g3.below x.h).cell
          try clear c_g4 f_g4 a_g4 d_g4 e_g4
          have c_g4 := fun x : Fut _ => (g4.below x.h).cell
          try clear c_g6 f_g6 a_g6 d_g6 e_g6
          have c_g6 := fun x : Fut _ => (g6.below x.h).cell
          repeat (go_big_quiet_step (exact Fut.call (FD.out _ (HC.out _))))
          refine wpQuiet_nil ?_
          intro _ hw'
          obtain ⟨xq, hw''⟩ := hw'
          subst hw''
          clear c_g1; replace g1 := g1.below xq.h; have c_g1 := g1.cell; have f_g1 := g1.free; have a_g1 := fun o => (g1.alloc o).cell; have d_g1 := fun o o2 => ((g1.alloc o).alloc o2).cell; have e_g1 := fun o => (g1.alloc o).free
          clear c_g3; replace g3 := g3.below xq.h; have c_g3 := g3.cell; have f_g3 := g3.free; have a_g3 := fun o => (g3.alloc o).cell; have d_g3 := fun o o2 => ((g3.alloc o).alloc o2).cell; have e_g3 := fun o => (g3.alloc o).free
          clear c_g4; replace g4 := g4.below xq.h; have c_g4 := g4.cell; have f_g4 := g4.free; have a_g4 := fun o => (g4.alloc o).cell; have d_g4 := fun o o2 => ((g4.alloc o).alloc o2).cell; have e_g4 := fun o => (g4.alloc o).free
          clear c_g6; replace g6 := g6.below xq.h; have c_g6 := g6.cell; have f_g6 := g6.free; have a_g6 := fun o => (g6.alloc o).cell; have d_g6 := fun o o2 => ((g6.alloc o).alloc o2).cell; have e_g6 := fun o => (g6.alloc o).free
          replace om2 := om2.below xq.h
          replace of2 := of2.below xq.h
          replace B := B.trans (xq.h.mono B.size)
          go_upto_region 11 with (fail)
          obtain ⟨sb, sq, s3, ia, k0, k1, k2', hs3⟩ := H.out.s.at_ (P := Try.prog) Try.underlying24 size_slot (k := k2) (List.getElem?_eq_some_iff.1 HS2.out).1
          obtain rfl : s3 = s2 := by have := hs3.out; rw [HS2.out] at this; injection this with e; exact e.symm
          rw [hat2] at k2'
          clear k0 k1 hs3
          have hw1 : IntKind.u64.wrap (n2 : Int) = (n2 : Int) := by show (n2 : Int) % 18446744073709551616 = _; omega
          have hw2 : IntKind.u64.wrap ((n2 : Int) + 1) = (n2 : Int) + 1 := by show ((n2 : Int) + 1) % 18446744073709551616 = _; omega
          have hB1 := hz1
          have AL : ∀ d, d ≤ 1 → Below w.heap.size w ((wsR xq.W gf i ((n2 : Int) + 1)) d) ∧ Bx ((wsR xq.W gf i ((n2 : Int) + 1)) d) w.heap.size 26 #[tv, ov, sv] ∧ Bx ((wsR xq.W gf i ((n2 : Int) + 1)) d) tg 28 #[.int .i64 (k2 : Int), .int .i64 tb] := by
            intro d hd
            rcases d with _ | d
            · exact ⟨B.drew, g1, g6⟩
            · exact ⟨(B.drew).setCell (p := ⟨gf, i, none⟩) (by show w.heap.size ≤ gf; omega) _, (show Bx xq.W.drew _ _ _ from g1).far (p := ⟨gf, i, none⟩) (by show _ ≠ gf; omega) _, (show Bx xq.W.drew _ _ _ from g6).far (p := ⟨gf, i, none⟩) (by show _ ≠ gf; omega) _⟩
          have AA := Lib.hid (fun x : FXN (FL [13] (wsR xq.W gf i ((n2 : Int) + 1)) 13 1) => FL.all (ks := [13]) (Ws := (wsR xq.W gf i ((n2 : Int) + 1))) (p := fun W => Below w.heap.size w W ∧ Bx W w.heap.size 26 #[tv, ov, sv] ∧ Bx W tg 28 #[.int .i64 (k2 : Int), .int .i64 tb]) AL x)
          have ca := fun x : FXN (FL [13] (wsR xq.W gf i ((n2 : Int) + 1)) 13 1) => (AA.out x).2.1.cell
          have cb := fun x : FXN (FL [13] (wsR xq.W gf i ((n2 : Int) + 1)) 13 1) => (AA.out x).2.2.cell
          have cc := fun x : FXN (FL [13] (wsR xq.W gf i ((n2 : Int) + 1)) 13 1) => cell_later (AA.out x).1 k2'
          haveI : Nonempty (FXN (FL [13] (wsR xq.W gf i ((n2 : Int) + 1)) 13 1)) := ⟨⟨_, _, FL.start⟩⟩
          obtain ⟨mm0, ff0, _⟩ := of2.cell (putF_obj (x := 0) HO.out.1) (show (o.fs.set i 0)[i]? = some 0 by rw [List.getElem?_set_self (List.getElem?_eq_some_iff.1 HO.out.2).1])
          clear c_g1 f_g1 a_g1 d_g1 e_g1 c_g6 f_g6 a_g6 d_g6 e_g6 c_g3 f_g3 a_g3 d_g3 e_g3 c_g4 f_g4 a_g4 d_g4 e_g4 k2'
          refine wp_region_N (FL [13] (wsR xq.W gf i ((n2 : Int) + 1)) 13 1) [13, 13] FL.dep (by kernel_rfl) (by kernel_rfl) (by kernel_rfl) FL.start ?_
          iterate 4 (refine wpN_read FL.dep rfl (by decide) ?_; go_big_quiet_step (fail); refine wpQuiet_nil ?_)
          refine wpN_pure FL.dep (by decide) rfl (v := .pointer (some ⟨tg, 0, none⟩)) (fun W => by simp [execOp, Act.eval, go_sem]) ?_
          simp only [Act.put, List.setIfInBounds_toArray, List.set_cons_zero, List.set_cons_succ]
          iterate 7 (refine wpN_read FL.dep rfl (by decide) ?_; go_big_quiet_step (fail); refine wpQuiet_nil ?_)
          refine wpN_pure FL.dep (by decide) rfl (v := .pointer (some ⟨gf, i, none⟩)) (fun W => by simp [execOp, Act.eval, go_sem]) ?_
          simp only [Act.put, List.setIfInBounds_toArray, List.set_cons_zero, List.set_cons_succ]
          refine wpN_storeD FL.dep rfl 29 (.tmp 56) (.tmp 55) rfl (by rfl) (p := .pointer (some ⟨gf, i, none⟩)) (u := .int .u64 ((n2 : Int) + 1)) (by rfl) (by rfl) [] (by kernel_rfl) (fun f W hF h0 h1 => ?_) ?_
          · obtain ⟨rfl, h2⟩ := FL.step (i := 0) rfl (by decide) hF h0 (by intro p hp; omega) (by omega)
            refine ⟨_, ?_, h2⟩
            exact store_int (by kernel_rfl) xq.W.drew _ _ _ _ mm0 ff0
          show ∀ w', _ → _
          intro w' hw'
          obtain rfl := FL.done hw'
          have hfin := OwnM.storeF (w := xq.W.drew) ⟨om2.t, om2.o, om2.s⟩ (show OwnF xq.W.drew _ _ _ _ _ from of2) (putF_obj (x := 0) HO.out.1) (show (o.fs.set i 0)[i]? = some 0 by rw [List.getElem?_set_self (List.getElem?_eq_some_iff.1 HO.out.2).1]) y
          rw [putF_putF HO.out.1, hyn] at hfin
          have r3 := (show Bx xq.W.drew _ _ _ from g3).far (p := ⟨gf, i, none⟩) (by show _ ≠ gf; omega) (.int .u64 ((n2 : Int) + 1))
          have r4 := (show Bx xq.W.drew _ _ _ from g4).far (p := ⟨gf, i, none⟩) (by show _ ≠ gf; omega) (.int .u64 ((n2 : Int) + 1))
          have hb3 := (B.drew).setCell (p := ⟨gf, i, none⟩) (by show w.heap.size ≤ gf; omega) (.int .u64 ((n2 : Int) + 1))
          have HH := Lib.hid (And.intro hfin.1 (And.intro r3 (And.intro r4 hb3)))
          clear this ca cb cc AA AL hfin r3 r4 hb3 om2 of2 g1 g3 g4 g6 B mm0 ff0 hw' hw1 hw2
          go_upto_region 12 with (fail)
          refine wp_gen (fun Wv => OwnM Wv wa1.heap.size 67 (.slice tA tn tc) (.slice oA on oc) (.slice sA sn sc) (putF m n' i y) ∧ Bx Wv (w.heap.size + 1 + 1) 26 #[.slice none 0 0, .slice none 0 0, .slice none 0 0] ∧ Bx Wv wa2.heap.size 26 #[.slice tA tn tc, .slice oA on oc, .slice sA sn sc] ∧ Below w.heap.size w Wv) HH.out ?_
          rintro wy ⟨om3, r3, r4, B3⟩
          have c3 := r3.cell; have f3 := r3.free; have c4 := r4.cell
          go_wp2
          refine bodyPost_ret (v := .tuple #[.agg #[.slice tA tn tc, .slice oA on oc, .slice sA sn sc], .int .i64 0]) (by simp [results, Try.results15, go_sem, c3, f3]) rfl ?_
          refine ⟨_, _, _, rfl, (OwnM.set3 om3 r3).rd, ?_⟩
          exact ((B3.setCell (p := ⟨w.heap.size + 1 + 1, 0, none⟩) (by simp; omega) _).setCell (p := ⟨w.heap.size + 1 + 1, 1, none⟩) (by simp; omega) _).setCell (p := ⟨w.heap.size + 1 + 1, 2, none⟩) (by simp; omega) _
        · obtain ⟨z, hz⟩ : ∃ z, z = rightErr m.slots ta tb := ⟨_, rfl⟩
          have hr1 : r = z := by rw [hr]; unfold refE; rw [if_pos h0, ← hkd, if_pos hk, hz]
          have hM1 : M = .nil := by rw [hM]; unfold refM; rw [← hr, hr1, hz, if_neg hre]
          have FD := Lib.hid (fun w h => find20_any tv ov sv m ta tb z hz w h)
          have hne : (z != 0) = true := by rw [bne_iff_ne, hz]; exact hre
          subst hr1; subst hM1
          clear hr hM h0 hown ho hx hfx hkd hk h hchk hre hz
          go_enter Try.func15, Try.ntmps15
          go_upto_region 1 with (fail)
          refine wp_gen (fun Wv => Bx Wv (w.heap.size) (26) (#[tv, ov, sv]) ∧ Bx Wv (w.heap.size + 1) (28) (#[.int .i64 sl, .int .i64 g]) ∧ Bx Wv (w.heap.size + 1 + 1) (26) (#[.slice none 0 0, .slice none 0 0, .slice none 0 0]) ∧ Below w.heap.size w Wv) ⟨((((Bx.at_ (by simp)).alloc _).alloc _)), (((Bx.at_ (by simp)).alloc _)), ((Bx.at_ (by simp))), ((((Below.refl _ w).alloc (by simp <;> omega) _).alloc (by simp <;> omega) _).alloc (by simp <;> omega) _)⟩ ?_
          rintro wa1 ⟨g1, g2, g3, b⟩
          replace B := B.trans (b.mono B.size); clear b
          have c_g1 := g1.cell; have f_g1 := g1.free; have a_g1 := fun o => (g1.alloc o).cell; have d_g1 := fun o o2 => ((g1.alloc o).alloc o2).cell; have e_g1 := fun o => (g1.alloc o).free
          have c_g2 := g2.cell; have f_g2 := g2.free; have a_g2 := fun o => (g2.alloc o).cell; have d_g2 := fun o o2 => ((g2.alloc o).alloc o2).cell; have e_g2 := fun o => (g2.alloc o).free
          have c_g3 := g3.cell; have f_g3 := g3.free; have a_g3 := fun o => (g3.alloc o).cell; have d_g3 := fun o o2 => ((g3.alloc o).alloc o2).cell; have e_g3 := fun o => (g3.alloc o).free
          have hp1 := g3.lt
          have hz1 := B.size
          go_wp2_with fail
          refine (FT.out _ (H.out.below B)).mono ?_
          rintro e wa2 ⟨t', o', s', gf, rfl, om, of_, b⟩
          try clear c_g1 f_g1 a_g1 d_g1 e_g1
          replace g1 := g1.below b; have c_g1 := g1.cell; have f_g1 := g1.free; have a_g1 := fun o => (g1.alloc o).cell; have d_g1 := fun o o2 => ((g1.alloc o).alloc o2).cell; have e_g1 := fun o => (g1.alloc o).free; try clear c_g2 f_g2 a_g2 d_g2 e_g2
          replace g2 := g2.below b; have c_g2 := g2.cell; have f_g2 := g2.free; have a_g2 := fun o => (g2.alloc o).cell; have d_g2 := fun o o2 => ((g2.alloc o).alloc o2).cell; have e_g2 := fun o => (g2.alloc o).free; try clear c_g3 f_g3 a_g3 d_g3 e_g3
          replace g3 := g3.below b; have c_g3 := g3.cell; have f_g3 := g3.free; have a_g3 := fun o => (g3.alloc o).cell; have d_g3 := fun o o2 => ((g3.alloc o).alloc o2).cell; have e_g3 := fun o => (g3.alloc o).free; replace B := B.trans (b.mono B.size); clear b
          obtain ⟨⟨tA, tn, tc, rfl⟩, ⟨oA, on, oc, rfl⟩, ⟨sA, sn, sc, rfl⟩⟩ := om.forms
          have hgf := (of_.cell HO.out.1 HO.out.2).2.2
          go_upto_region 2 with (fail)
          refine wp_gen (fun Wv => Bx Wv (wa2.heap.size) (26) (#[.slice tA tn tc, .slice oA on oc, .slice sA sn sc]) ∧ Below wa2.heap.size wa2 Wv) ⟨((Bx.at_ (by simp))), ((Below.refl _ wa2).alloc (by simp <;> omega) _)⟩ ?_
          rintro wa3 ⟨g4, b⟩
          try clear c_g1 f_g1 a_g1 d_g1 e_g1
          replace g1 := g1.below b; have c_g1 := g1.cell; have f_g1 := g1.free; have a_g1 := fun o => (g1.alloc o).cell; have d_g1 := fun o o2 => ((g1.alloc o).alloc o2).cell; have e_g1 := fun o => (g1.alloc o).free; try clear c_g2 f_g2 a_g2 d_g2 e_g2
          replace g2 := g2.below b; have c_g2 := g2.cell; have f_g2 := g2.free; have a_g2 := fun o => (g2.alloc o).cell; have d_g2 := fun o o2 => ((g2.alloc o).alloc o2).cell; have e_g2 := fun o => (g2.alloc o).free; try clear c_g3 f_g3 a_g3 d_g3 e_g3
          replace g3 := g3.below b; have c_g3 := g3.cell; have f_g3 := g3.free; have a_g3 := fun o => (g3.alloc o).cell; have d_g3 := fun o o2 => ((g3.alloc o).alloc o2).cell; have e_g3 := fun o => (g3.alloc o).free; replace om := om.below b; replace of_ := of_.below b; replace B := B.trans (b.mono B.size); clear b
          have c_g4 := g4.cell; have f_g4 := g4.free; have a_g4 := fun o => (g4.alloc o).cell; have d_g4 := fun o o2 => ((g4.alloc o).alloc o2).cell; have e_g4 := fun o => (g4.alloc o).free
          obtain ⟨m0, f0, _⟩ := of_.cell HO.out.1 HO.out.2
          have hfin := OwnM.storeF om of_ HO.out.1 HO.out.2 0
          have r1 := g1.far (p := ⟨gf, i, none⟩) (by show _ ≠ gf; omega) (.int .u64 (UInt64.toNat 0))
          have r3 := g3.far (p := ⟨gf, i, none⟩) (by show _ ≠ gf; omega) (.int .u64 (UInt64.toNat 0))
          have r4 := g4.far (p := ⟨gf, i, none⟩) (by show _ ≠ gf; omega) (.int .u64 (UInt64.toNat 0))
          have hb3 := B.setCell (p := ⟨gf, i, none⟩) (by show w.heap.size ≤ gf; omega) (.int .u64 (UInt64.toNat 0))
          have HH := Lib.hid (And.intro hfin.1 (And.intro hfin.2.1 (And.intro r1 (And.intro r3 (And.intro r4 hb3)))))
          clear hfin r1 r3 r4 hb3
          go_upto_region 7 with (fail)
          refine wp_gen (fun Wv => OwnM Wv wa1.heap.size 67 (.slice tA tn tc) (.slice oA on oc) (.slice sA sn sc) (putF m n' i 0) ∧ OwnF Wv wa1.heap.size (.slice oA on oc) (putF m n' i 0).objs n' gf ∧ Bx Wv w.heap.size 26 #[tv, ov, sv] ∧ Bx Wv (w.heap.size + 1 + 1) 26 #[.slice none 0 0, .slice none 0 0, .slice none 0 0] ∧ Bx Wv wa2.heap.size 26 #[.slice tA tn tc, .slice oA on oc, .slice sA sn sc] ∧ Below w.heap.size w Wv) HH.out ?_
          rintro wz ⟨om2, of2, r1, r3, r4, B2⟩
          clear HH om of_ g1 g2 g3 g4 B m0 f0 c_g1 c_g2 f_g1 f_g2 a_g1 a_g2 d_g1 d_g2 e_g1 e_g2 c_g3 f_g3 a_g3 d_g3 e_g3 c_g4 f_g4 a_g4 d_g4 e_g4
          have c1 := r1.cell; have c3 := r3.cell; have f3 := r3.free; have c4 := r4.cell
          have g1 := r1; have g3 := r3; have g4 := r4; have B := B2
          have g6 := hbt.below B
          clear c1 c3 f3 c4 r1 r3 r4 om2 of2
          have HC := Lib.hid (fun z : Fut wz => H.out.below (B2.trans (z.h.mono B2.size)))
          clear B2
          go_upto_region 8 with (fail)
          refine wp_region_calm (by kernel_rfl) (by kernel_rfl) ?_
          try clear c_g1 f_g1 a_g1 d_g1 e_g1
          have c_g1 := fun x : Fut _ => (g1.below x.h).cell
          try clear c_g3 f_g3 a_g3 d_g3 e_g3
          have c_g3 := fun x : Fut _ => (g3.below x.h).cell
          try clear c_g4 f_g4 a_g4 d_g4 e_g4
          have c_g4 := fun x : Fut _ => (g4.below x.h).cell
          try clear c_g6 f_g6 a_g6 d_g6 e_g6
          have c_g6 := fun x : Fut _ => (g6.below x.h).cell
          repeat (go_big_quiet_step (exact Fut.call (FD.out _ (HC.out _))))
          refine wpQuiet_nil ?_
          intro _ hw'
          obtain ⟨xq, hw''⟩ := hw'
          subst hw''
          clear c_g1; replace g1 := g1.below xq.h; have c_g1 := g1.cell; have f_g1 := g1.free; have a_g1 := fun o => (g1.alloc o).cell; have d_g1 := fun o o2 => ((g1.alloc o).alloc o2).cell; have e_g1 := fun o => (g1.alloc o).free
          clear c_g3; replace g3 := g3.below xq.h; have c_g3 := g3.cell; have f_g3 := g3.free; have a_g3 := fun o => (g3.alloc o).cell; have d_g3 := fun o o2 => ((g3.alloc o).alloc o2).cell; have e_g3 := fun o => (g3.alloc o).free
          clear c_g4; replace g4 := g4.below xq.h; have c_g4 := g4.cell; have f_g4 := g4.free; have a_g4 := fun o => (g4.alloc o).cell; have d_g4 := fun o o2 => ((g4.alloc o).alloc o2).cell; have e_g4 := fun o => (g4.alloc o).free
          clear c_g6; replace g6 := g6.below xq.h; have c_g6 := g6.cell; have f_g6 := g6.free; have a_g6 := fun o => (g6.alloc o).cell; have d_g6 := fun o o2 => ((g6.alloc o).alloc o2).cell; have e_g6 := fun o => (g6.alloc o).free
          replace B := B.trans (xq.h.mono B.size)
          go_wp2
          refine bodyPost_ret (v := .tuple #[.agg #[.slice none 0 0, .slice none 0 0, .slice none 0 0], .int .i64 r]) (by simp [results, Try.results15, go_sem, c_g3, f_g3]) rfl ?_
          refine ⟨_, _, _, rfl, Mod.nil _, ?_⟩
          exact ((B.setCell (p := ⟨w.heap.size + 1 + 1, 0, none⟩) (by simp; omega) _).setCell (p := ⟨w.heap.size + 1 + 1, 1, none⟩) (by simp; omega) _).setCell (p := ⟨w.heap.size + 1 + 1, 2, none⟩) (by simp; omega) _
    · have hr1 : r = 42 := by rw [hr]; unfold refE; rw [if_pos h0, ← hkd, if_neg hk]
      have hM1 : M = .nil := by rw [hM]; unfold refM; rw [← hr, hr1]; rfl
      have k3 : ((kd.toNat : Int) != 3) = true := by rw [bne_iff_ne]; omega
      subst hr1; subst hM1
      clear hr hM h0 hown ho hx hfx hkd hk h hchk hto
      go_enter Try.func15, Try.ntmps15
      go_upto_region 1 with (fail)
      refine wp_gen (fun Wv => Bx Wv (w.heap.size) (26) (#[tv, ov, sv]) ∧ Bx Wv (w.heap.size + 1) (28) (#[.int .i64 sl, .int .i64 g]) ∧ Bx Wv (w.heap.size + 1 + 1) (26) (#[.slice none 0 0, .slice none 0 0, .slice none 0 0]) ∧ Below w.heap.size w Wv) ⟨((((Bx.at_ (by simp)).alloc _).alloc _)), (((Bx.at_ (by simp)).alloc _)), ((Bx.at_ (by simp))), ((((Below.refl _ w).alloc (by simp <;> omega) _).alloc (by simp <;> omega) _).alloc (by simp <;> omega) _)⟩ ?_
      rintro wa1 ⟨g1, g2, g3, b⟩
      replace B := B.trans (b.mono B.size); clear b
      have c_g1 := g1.cell; have f_g1 := g1.free; have a_g1 := fun o => (g1.alloc o).cell; have d_g1 := fun o o2 => ((g1.alloc o).alloc o2).cell; have e_g1 := fun o => (g1.alloc o).free
      have c_g2 := g2.cell; have f_g2 := g2.free; have a_g2 := fun o => (g2.alloc o).cell; have d_g2 := fun o o2 => ((g2.alloc o).alloc o2).cell; have e_g2 := fun o => (g2.alloc o).free
      have c_g3 := g3.cell; have f_g3 := g3.free; have a_g3 := fun o => (g3.alloc o).cell; have d_g3 := fun o o2 => ((g3.alloc o).alloc o2).cell; have e_g3 := fun o => (g3.alloc o).free
      go_wp2_with fail
      refine (FT.out _ (H.out.below B)).mono ?_
      rintro e wa2 ⟨t', o', s', gf, rfl, om, of_, b⟩
      try clear c_g1 f_g1 a_g1 d_g1 e_g1
      replace g1 := g1.below b; have c_g1 := g1.cell; have f_g1 := g1.free; have a_g1 := fun o => (g1.alloc o).cell; have d_g1 := fun o o2 => ((g1.alloc o).alloc o2).cell; have e_g1 := fun o => (g1.alloc o).free; try clear c_g2 f_g2 a_g2 d_g2 e_g2
      replace g2 := g2.below b; have c_g2 := g2.cell; have f_g2 := g2.free; have a_g2 := fun o => (g2.alloc o).cell; have d_g2 := fun o o2 => ((g2.alloc o).alloc o2).cell; have e_g2 := fun o => (g2.alloc o).free; try clear c_g3 f_g3 a_g3 d_g3 e_g3
      replace g3 := g3.below b; have c_g3 := g3.cell; have f_g3 := g3.free; have a_g3 := fun o => (g3.alloc o).cell; have d_g3 := fun o o2 => ((g3.alloc o).alloc o2).cell; have e_g3 := fun o => (g3.alloc o).free; replace B := B.trans (b.mono B.size); clear b
      obtain ⟨⟨tA, tn, tc, rfl⟩, ⟨oA, on, oc, rfl⟩, ⟨sA, sn, sc, rfl⟩⟩ := om.forms
      clear om of_
      go_upto_region 2 with (fail)
      refine wp_gen (fun Wv => Bx Wv (wa2.heap.size) (26) (#[.slice tA tn tc, .slice oA on oc, .slice sA sn sc]) ∧ Below wa2.heap.size wa2 Wv) ⟨((Bx.at_ (by simp))), ((Below.refl _ wa2).alloc (by simp <;> omega) _)⟩ ?_
      rintro wa3 ⟨g4, b⟩
      try clear c_g1 f_g1 a_g1 d_g1 e_g1
      replace g1 := g1.below b; have c_g1 := g1.cell; have f_g1 := g1.free; have a_g1 := fun o => (g1.alloc o).cell; have d_g1 := fun o o2 => ((g1.alloc o).alloc o2).cell; have e_g1 := fun o => (g1.alloc o).free; try clear c_g2 f_g2 a_g2 d_g2 e_g2
      replace g2 := g2.below b; have c_g2 := g2.cell; have f_g2 := g2.free; have a_g2 := fun o => (g2.alloc o).cell; have d_g2 := fun o o2 => ((g2.alloc o).alloc o2).cell; have e_g2 := fun o => (g2.alloc o).free; try clear c_g3 f_g3 a_g3 d_g3 e_g3
      replace g3 := g3.below b; have c_g3 := g3.cell; have f_g3 := g3.free; have a_g3 := fun o => (g3.alloc o).cell; have d_g3 := fun o o2 => ((g3.alloc o).alloc o2).cell; have e_g3 := fun o => (g3.alloc o).free; replace B := B.trans (b.mono B.size); clear b
      have c_g4 := g4.cell; have f_g4 := g4.free; have a_g4 := fun o => (g4.alloc o).cell; have d_g4 := fun o o2 => ((g4.alloc o).alloc o2).cell; have e_g4 := fun o => (g4.alloc o).free
      go_wp2
      refine bodyPost_ret (v := .tuple #[.agg #[.slice none 0 0, .slice none 0 0, .slice none 0 0], .int .i64 42]) (by simp [results, Try.results15, go_sem, c_g3, f_g3]) rfl ?_
      refine ⟨_, _, _, rfl, Mod.nil _, ?_⟩
      (repeat (first | refine Below.setCell ?_ (by first | exact Nat.le_refl _ | (simp <;> omega)) _ | refine Below.alloc ?_ (by first | exact B.size | (have := B.size; simp <;> omega)) _)); exact B
  · have hr1 : r = kErrF m sl g n := by rw [hr]; unfold refE; rw [if_neg h0]
    have hM1 : M = .nil := by rw [hM]; unfold refM; rw [← hr, hr1, if_neg h0]
    have FT := Lib.hid (fun w h => field_no tv ov sv m sl g n r hr1 (by rw [hr1]; exact h0) w h)
    have hne : (r != 0) = true := by rw [bne_iff_ne, hr1]; exact h0
    subst hM1
    clear hr hM hr1 h0 h hto
    go_enter Try.func15, Try.ntmps15
    go_upto_region 1 with (fail)
    refine wp_gen (fun Wv => Bx Wv (w.heap.size) (26) (#[tv, ov, sv]) ∧ Bx Wv (w.heap.size + 1) (28) (#[.int .i64 sl, .int .i64 g]) ∧ Bx Wv (w.heap.size + 1 + 1) (26) (#[.slice none 0 0, .slice none 0 0, .slice none 0 0]) ∧ Below w.heap.size w Wv) ⟨((((Bx.at_ (by simp)).alloc _).alloc _)), (((Bx.at_ (by simp)).alloc _)), ((Bx.at_ (by simp))), ((((Below.refl _ w).alloc (by simp <;> omega) _).alloc (by simp <;> omega) _).alloc (by simp <;> omega) _)⟩ ?_
    rintro wa1 ⟨g1, g2, g3, b⟩
    replace B := B.trans (b.mono B.size); clear b
    have c_g1 := g1.cell; have f_g1 := g1.free; have a_g1 := fun o => (g1.alloc o).cell; have d_g1 := fun o o2 => ((g1.alloc o).alloc o2).cell; have e_g1 := fun o => (g1.alloc o).free
    have c_g2 := g2.cell; have f_g2 := g2.free; have a_g2 := fun o => (g2.alloc o).cell; have d_g2 := fun o o2 => ((g2.alloc o).alloc o2).cell; have e_g2 := fun o => (g2.alloc o).free
    have c_g3 := g3.cell; have f_g3 := g3.free; have a_g3 := fun o => (g3.alloc o).cell; have d_g3 := fun o o2 => ((g3.alloc o).alloc o2).cell; have e_g3 := fun o => (g3.alloc o).free
    go_wp2_with fail
    refine (FT.out _ (H.out.below B)).mono ?_
    rintro e wa2 ⟨rfl, b⟩
    try clear c_g1 f_g1 a_g1 d_g1 e_g1
    replace g1 := g1.below b; have c_g1 := g1.cell; have f_g1 := g1.free; have a_g1 := fun o => (g1.alloc o).cell; have d_g1 := fun o o2 => ((g1.alloc o).alloc o2).cell; have e_g1 := fun o => (g1.alloc o).free; try clear c_g2 f_g2 a_g2 d_g2 e_g2
    replace g2 := g2.below b; have c_g2 := g2.cell; have f_g2 := g2.free; have a_g2 := fun o => (g2.alloc o).cell; have d_g2 := fun o o2 => ((g2.alloc o).alloc o2).cell; have e_g2 := fun o => (g2.alloc o).free; try clear c_g3 f_g3 a_g3 d_g3 e_g3
    replace g3 := g3.below b; have c_g3 := g3.cell; have f_g3 := g3.free; have a_g3 := fun o => (g3.alloc o).cell; have d_g3 := fun o o2 => ((g3.alloc o).alloc o2).cell; have e_g3 := fun o => (g3.alloc o).free; replace B := B.trans (b.mono B.size); clear b
    go_upto_region 2 with (fail)
    refine wp_gen (fun Wv => Bx Wv (wa2.heap.size) (26) (#[.slice none 0 0, .slice none 0 0, .slice none 0 0]) ∧ Below wa2.heap.size wa2 Wv) ⟨((Bx.at_ (by simp))), ((Below.refl _ wa2).alloc (by simp <;> omega) _)⟩ ?_
    rintro wa3 ⟨g4, b⟩
    try clear c_g1 f_g1 a_g1 d_g1 e_g1
    replace g1 := g1.below b; have c_g1 := g1.cell; have f_g1 := g1.free; have a_g1 := fun o => (g1.alloc o).cell; have d_g1 := fun o o2 => ((g1.alloc o).alloc o2).cell; have e_g1 := fun o => (g1.alloc o).free; try clear c_g2 f_g2 a_g2 d_g2 e_g2
    replace g2 := g2.below b; have c_g2 := g2.cell; have f_g2 := g2.free; have a_g2 := fun o => (g2.alloc o).cell; have d_g2 := fun o o2 => ((g2.alloc o).alloc o2).cell; have e_g2 := fun o => (g2.alloc o).free; try clear c_g3 f_g3 a_g3 d_g3 e_g3
    replace g3 := g3.below b; have c_g3 := g3.cell; have f_g3 := g3.free; have a_g3 := fun o => (g3.alloc o).cell; have d_g3 := fun o o2 => ((g3.alloc o).alloc o2).cell; have e_g3 := fun o => (g3.alloc o).free; replace B := B.trans (b.mono B.size); clear b
    have c_g4 := g4.cell; have f_g4 := g4.free; have a_g4 := fun o => (g4.alloc o).cell; have d_g4 := fun o o2 => ((g4.alloc o).alloc o2).cell; have e_g4 := fun o => (g4.alloc o).free
    go_wp2
    refine bodyPost_ret (v := .tuple #[.agg #[.slice none 0 0, .slice none 0 0, .slice none 0 0], .int .i64 r]) (by simp [results, Try.results15, go_sem, c_g3, f_g3]) rfl ?_
    refine ⟨_, _, _, rfl, Mod.nil _, ?_⟩
    (repeat (first | refine Below.setCell ?_ (by first | exact Nat.le_refl _ | (simp <;> omega)) _ | refine Below.alloc ?_ (by first | exact B.size | (have := B.size; simp <;> omega)) _)); exact B
end Go.Proofs.Ytgjpohhafmkhcaa
namespace Go.Proofs.Ytgjpohhafmkhcaa
open Go.RowKit L02 L13 L18 L20
/-- the region in which a handle is made, and a block for it: g is that block. R: what holds of the model before, behind the call; ps: blocks that stay -/
def FHandle (w : World) (R : Bool → World → Prop) (ps : List (Nat × TypeId × Array Value)) (gf i : Nat) (x : Int) (a b : Int) (z : Nat) (g : Nat) : (Nat → Bool) → World → Prop := fun φ W =>
  (R (φ 6) W ∧ z ≤ W.heap.size) ∧ Below w.heap.size w W ∧ (∀ p ∈ ps, Bx W p.1 p.2.1 p.2.2) ∧ W.cell? ⟨gf, i, none⟩ = some (.int .u64 x) ∧ (φ 11 = true → φ 10 = true) ∧ (φ 10 = true → (∀ p ∈ ps, g ≠ p.1) ∧ gf ≠ g ∧ z ≤ g) ∧ (φ 10 = true → φ 11 = false → Bx W g 28 #[.int .i64 0, .int .i64 0]) ∧ (φ 11 = true → Bx W g 28 #[.int .i64 a, .int .i64 b])
theorem FHandle.dep {w : World} {R : Bool → World → Prop} {ps : List (Nat × TypeId × Array Value)} {gf i : Nat} {x a b : Int} {z g : Nat} : Dep (FHandle w R ps gf i x a b z g) [6, 10, 11] := by
  rintro φ ψ W h ⟨h1, h2, h3, h4, h5, h6, h7, h8⟩
  have e1 := h 6 (by simp); have e2 := h 10 (by simp); have e3 := h 11 (by simp)
  rw [e1] at h1; rw [e2, e3] at h5; rw [e2] at h6; rw [e2, e3] at h7; rw [e3] at h8
  exact ⟨h1, h2, h3, h4, h5, h6, h7, h8⟩
theorem FHandle.agree {w : World} {R : Bool → World → Prop} {ps : List (Nat × TypeId × Array Value)} {gf i : Nat} {x a b : Int} {z g g' : Nat} {φ : Nat → Bool} {W : World} (h : φ 10 = true → g = g') (hF : FHandle w R ps gf i x a b z g φ W) : FHandle w R ps gf i x a b z g' φ W := by
  by_cases h10 : φ 10 = true
  · rw [← h h10]; exact hF
  · obtain ⟨h1, h2, h3, h4, h5, h6, h7, h8⟩ := hF
    exact ⟨h1, h2, h3, h4, h5, fun e => absurd e h10, fun e => absurd e h10, fun e => absurd (h5 e) h10⟩
/-- the block is made -/
theorem FHandle.alloc {w : World} {R : Bool → World → Prop} {ps : List (Nat × TypeId × Array Value)} {gf i : Nat} {x a b : Int} {z g : Nat} {φ : Nat → Bool} {W : World} (hF : FHandle w R ps gf i x a b z g φ W) (h10 : φ 10 = false) (hR : ∀ c W o, R c W → R c (W.alloc o)) :
    FHandle w R ps gf i x a b z W.heap.size (fun j => j == 10 || φ j) (W.alloc (.cells #[.int .i64 0, .int .i64 0] 28)) := by
  obtain ⟨h1, h2, h3, h4, h5, h6, h7, h8⟩ := hF
  have h11 : φ 11 = false := by
    cases e : φ 11
    · rfl
    · rw [h5 e] at h10; cases h10
  have hlt := World.block_lt_of_cell? W _ h4
  refine ⟨⟨by simpa using hR _ _ _ h1.1, by simp; omega⟩, h2.alloc h2.size _, fun p hp => (h3 p hp).alloc _, cell_later ((Below.refl _ W).alloc (Nat.le_refl _) _) h4, by simp, fun _ => ⟨fun p hp => by have := (h3 p hp).lt; omega, by simp at hlt; omega, h1.2⟩, fun _ _ => Bx.new _ _ _, by simp [h11]⟩
/-- the handle is made -/
theorem FHandle.call {w : World} {R : Bool → World → Prop} {ps : List (Nat × TypeId × Array Value)} {gf i : Nat} {x a b : Int} {z g : Nat} {φ : Nat → Bool} {W W' : World} {row : Option Nat} (hF : FHandle w R ps gf i x a b z g φ W) (hk : Keep W W' row) (hps : ∀ p ∈ ps, row ≠ some p.1) (hgf : row ≠ some gf) (hrow : ∀ k, row = some k → k < z)
    (hR : R true W') (hB : Below w.heap.size w W') : FHandle w R ps gf i x a b z g (fun j => j == 6 || φ j) W' := by
  obtain ⟨h1, h2, h3, h4, h5, h6, h7, h8⟩ := hF
  have hlt := World.block_lt_of_cell? W _ h4
  have hrg : φ 10 = true → row = none ∨ row ≠ some g := fun e => by
    rcases row with _ | k
    · exact .inl rfl
    · have h := hrow k rfl
      have h' := (h6 e).2.2
      exact .inr (fun e => by injection e with e; omega)
  refine ⟨⟨by simpa using hR, Nat.le_trans h1.2 hk.1⟩, hB, fun p hp => (h3 p hp).keep hk (.inr (hps p hp)), ?_, by simpa using h5, by simpa using h6, fun e1 e2 => ?_, fun e => ?_⟩
  · rw [World.cell?_of_block (hk.2 gf hlt (fun e => hgf e.symm))]; exact h4
  · have e1' : φ 10 = true := by simpa using e1
    exact (h7 e1' (by simpa using e2)).keep hk (hrg e1')
  · have e' : φ 11 = true := by simpa using e
    exact (h8 e').keep hk (hrg (h5 e'))
/-- the handle is stored -/
theorem FHandle.store {w : World} {R : Bool → World → Prop} {ps : List (Nat × TypeId × Array Value)} {gf i : Nat} {x a b : Int} {z g : Nat} {φ : Nat → Bool} {W : World} (hF : FHandle w R ps gf i x a b z g φ W) (hz : w.heap.size ≤ z) (h10 : φ 10 = true) (h11 : φ 11 = false)
    (hR : ∀ c W p cs u, Bx W g 28 cs → R c W → R c (W.setCell ⟨g, p, none⟩ u)) :
    (W.cell? ⟨g, 0, none⟩ = some (.int .i64 0) ∧ W.cell? ⟨g, 1, none⟩ = some (.int .i64 0) ∧ ∀ j, W.frozen? ⟨g, j, none⟩ = false) ∧ FHandle w R ps gf i x a b z g (fun j => j == 11 || φ j) ((W.setCell ⟨g, 0, none⟩ (.int .i64 a)).setCell ⟨g, 1, none⟩ (.int .i64 b)) := by
  obtain ⟨h1, h2, h3, h4, h5, h6, h7, h8⟩ := hF
  have hb := h7 h10 h11
  obtain ⟨k1, k2, k3⟩ := h6 h10
  have k4 := Nat.le_trans hz k3
  refine ⟨⟨hb.cell 0, hb.cell 1, fun j => hb.free j⟩, ⟨?_, by simpa [World.setCell] using h1.2⟩, (h2.setCell (p := ⟨g, 0, none⟩) k4 _).setCell (p := ⟨g, 1, none⟩) k4 _, fun p hp => ((h3 p hp).far (p := ⟨g, 0, none⟩) (Ne.symm (k1 p hp)) _).far (p := ⟨g, 1, none⟩) (Ne.symm (k1 p hp)) _, cell_far (cell_far h4 k2) k2, fun _ => by simpa using h10, fun _ => ⟨k1, k2, k3⟩, fun _ e => by simp at e, fun _ => ?_⟩
  · have := hR _ _ 1 _ (.int .i64 b) (hb.set (i := 0) (.int .i64 a)) (hR _ _ 0 _ (.int .i64 a) hb h1.1)
    simpa using this
  · have := (hb.set (i := 0) (.int .i64 a)).set (i := 1) (.int .i64 b)
    simpa using this
theorem ne_of_or {o : Option Nat} {k : Nat} (h : o = none ∨ o ≠ some k) : o ≠ some k := by
  rcases h with rfl | h
  · exact fun e => by cases e
  · exact h
/-- making a handle in a model of the call's own: one of two ways -/
theorem handle_way {m : Mo} {n : Int} (hc : chk m = 0) (hfit : 0 ≤ n) : ∃ (a b : Int) (ok : Bool) (m2 : Mo), (∀ (tv ov sv : Value) (B0 : Nat) (w : World), OwnM w B0 67 tv ov sv m → B0 ≤ w.heap.size →
    Calls Try.prog 44 #[.agg #[tv, ov, sv], .int .i64 n] w fun e w' => e = .returned (.tuple #[.agg #[.int .i64 a, .int .i64 b], .bool ok]) ∧ OwnM w' B0 67 tv ov sv m2 ∧ Below B0 w w' ∧ Keep w w' sv.ownBlock) ∧
    ((ok = false ∧ next m.slots = none) ∨ (ok = true ∧ ∃ k s, next m.slots = some k ∧ m.slots[k]? = some s ∧ a = (k : Int) ∧ b = s.gen + 1 ∧ m2 = ⟨m.types, m.objs, m.slots.set k ⟨s.gen + 1, true, n⟩⟩)) := by
  obtain ⟨_, _, h16, _, _, hsl⟩ := chk_ok hc
  have hgen : ∀ s ∈ m.slots, 0 ≤ s.gen ∧ s.gen ≤ 2147483647 := fun s hs => (hsl s hs).1
  cases hn : next m.slots with
  | none =>
    refine ⟨0, 0, false, m, fun tv ov sv B0 w h hB => (handle_no tv ov sv m n hn hgen h16 w h.rd).mono fun e w' ⟨h1, h2⟩ => ⟨h1, h.below h2, h2.mono hB, Keep.of_below h2⟩, .inl ⟨rfl, rfl⟩⟩
  | some k =>
    obtain ⟨_, ⟨s, hs, _⟩, _⟩ := nextFrom_some hn
    rw [Nat.sub_zero] at hs
    exact ⟨k, s.gen + 1, true, _, fun tv ov sv B0 w h hB => handle_ok tv ov sv m n k s hn hs hgen h16 B0 w h hB, .inr ⟨rfl, k, s, rfl, hs, rfl, rfl, rfl⟩⟩
def valH (u : Value) (g k : Nat) : Value := if k = 6 then u else .pointer (some ⟨g, 0, none⟩)
def TH (av : Array Value) (k : Nat) (s : Sem Next) : Prop := if k = 6 then (∀ W, s.run Try.prog W = .ok (.enter 44 av) W) else ∀ W, s.run Try.prog W = .ok (.value (.pointer (some ⟨W.heap.size, 0, none⟩))) (W.alloc (.cells #[.int .i64 0, .int .i64 0] 28))
/-- the region of Root -/
theorem wp_region_handle {id : Nat} {Q : Exit → Act → World → Prop} {ac : Act} {w0 : World} {l : List Oper} (w : World) (R : Bool → World → Prop) (ps : List (Nat × TypeId × Array Value)) (gf i : Nat) (x a b : Int) (ok : Bool) (z : Nat) (av : Array Value) (row : Option Nat)
    (hm : (Try.prog).follows .mixedOrders = true) (hB : Region.lexB .any l.toArray = true)
    (hf : (([6, 10, 11] : List Nat).all fun j => (setAll l.length 0 (Array.replicate l.length false)).getD j false) = true)
    (hnj : (([6, 10] : List Nat).all fun k => ([6, 10, 11] : List Nat).contains k && match l.toArray[k]? with | some o => (([] : List Nat)).all (fun j => o.after.any fun e => Region.binds .any e && e.on == j) | none => false) = true)
    (hC : FHandle w R ps gf i x a b z 0 (fun _ => false) w0.drew) (hwz : w.heap.size ≤ z) (hps : ∀ p ∈ ps, row ≠ some p.1) (hgf : row ≠ some gf) (hrow : ∀ k, row = some k → k < z)
    (hRa : ∀ c W o, R c W → R c (W.alloc o))
    (hcall : ∀ W, R false W → z ≤ W.heap.size → Below w.heap.size w W → Calls Try.prog 44 av W fun e W' => e = .returned (.tuple #[.agg #[.int .i64 a, .int .i64 b], .bool ok]) ∧ R true W' ∧ Below w.heap.size w W' ∧ Keep W W' row)
    (h : ∀ g, wpM Try.prog .any l.toArray (CN (FHandle w R ps gf i x a b z g)) (fun i => ([6, 10] : List Nat).contains i) (valH (.tuple #[.agg #[.int .i64 a, .int .i64 b], .bool ok]) g) (TH av) (fun a' => ∀ w', FHandle w R ps gf i x a b z g (fun _ => true) w' → Q .normal a' w') l 0 ac) : (Code.region id l.toArray true).wp Try.prog Q ac w0 := by
  refine wp_region_M (valH (.tuple #[.agg #[.int .i64 a, .int .i64 b], .bool ok])) (fun φ g g' => φ 10 = true → g = g') (FHandle w R ps gf i x a b z) [6, 10, 11] [6, 10] (fun _ => []) (TH av) 0 (fun g => FHandle.dep) hm hB hf hnj
    (fun φ ψ g g' he h e => h (by rw [he 10 (by simp)]; exact e)) (fun φ g _ => rfl) (fun φ g g' g'' h1 h2 e => (h1 e).trans (h2 e)) (fun φ k g g' h hk e => h (by simp [e])) ?_ (fun φ g g' W h hF => FHandle.agree h hF) (fun g e => by cases e) hC ?_ h
  · intro φ k g g' hk h0 hA
    simp only [List.mem_cons, List.not_mem_nil, or_false] at hk
    rcases hk with rfl | rfl
    · rfl
    · rw [hA (by simp)]
  · intro k s φ W g hk hT h0 _ hF
    simp only [List.mem_cons, List.not_mem_nil, or_false] at hk
    rcases hk with rfl | rfl
    · have hT' : ∀ W, s.run Try.prog W = .ok (.enter 44 av) W := hT
      rw [hT' W]
      have hR := hF.1.1
      rw [h0] at hR
      refine (hcall W hR hF.1.2 hF.2.1).mono fun e W' ⟨e1, e2, e3, e4⟩ => ⟨_, e1, g, fun _ => rfl, rfl, ?_⟩
      exact FHandle.call hF e4 hps hgf hrow e2 e3
    · have hT' : ∀ W, s.run Try.prog W = .ok (.value (.pointer (some ⟨W.heap.size, 0, none⟩))) (W.alloc (.cells #[.int .i64 0, .int .i64 0] 28)) := hT
      rw [hT' W]
      refine ⟨W.heap.size, ?_, rfl, FHandle.alloc hF h0 hRa⟩
      intro e
      rw [h0] at e; cases e
/-- two results are stored, in either order -/
def FTwoR (w : World) (B0 : Nat) (t o s : Value) (m : Mo) (p7 p4 gq : Nat) (p3 : Nat) (a b : Int) : (Nat → Bool) → World → Prop := fun f W =>
  Below w.heap.size w W ∧ OwnM W B0 67 t o s m ∧ Bx W p3 26 (if f 2 = true then #[t, o, s] else #[.slice none 0 0, .slice none 0 0, .slice none 0 0]) ∧ Bx W p7 28 (if f 3 = true then #[.int .i64 a, .int .i64 b] else #[.int .i64 0, .int .i64 0]) ∧
    Bx W p4 26 #[t, o, s] ∧ Bx W gq 28 #[.int .i64 a, .int .i64 b]
theorem FTwoR.dep {w : World} {B0 : Nat} {t o s : Value} {m : Mo} {p7 p4 gq p3 : Nat} {a b : Int} : Dep (FTwoR w B0 t o s m p7 p4 gq p3 a b) [2, 3] := by
  rintro f g W h ⟨h1, h2, h3, h4, h5, h6⟩
  have e1 := h 2 (by simp); have e2 := h 3 (by simp)
  rw [e1] at h3; rw [e2] at h4
  exact ⟨h1, h2, h3, h4, h5, h6⟩
theorem FTwoR.store2 {w : World} {B0 : Nat} {t o s : Value} {m : Mo} {p7 p4 gq p3 : Nat} {a b : Int} {f : Nat → Bool} {W : World} (hF : FTwoR w B0 t o s m p7 p4 gq p3 a b f W) (h2 : f 2 = false) (hw : w.heap.size ≤ p3) (n7 : p7 ≠ p3) (n4 : p4 ≠ p3) (nq : gq ≠ p3) :
    (∀ j, W.cell? ⟨p3, j, none⟩ = (#[.slice none 0 0, .slice none 0 0, .slice none 0 0] : Array Value)[j]?) ∧ (∀ j, W.frozen? ⟨p3, j, none⟩ = false) ∧ FTwoR w B0 t o s m p7 p4 gq p3 a b (fun j => j == 2 || f j) (((W.setCell ⟨p3, 0, none⟩ t).setCell ⟨p3, 1, none⟩ o).setCell ⟨p3, 2, none⟩ s) := by
  obtain ⟨h1, om, h3, h4, h5, h6⟩ := hF
  rw [h2] at h3
  have h3 : Bx W p3 26 #[.slice none 0 0, .slice none 0 0, .slice none 0 0] := h3
  have fr := fun {q : Nat} {tq : TypeId} {cs : Array Value} (hb : Bx W q tq cs) (hn : q ≠ p3) => ((hb.far (p := ⟨p3, 0, none⟩) hn t).far (p := ⟨p3, 1, none⟩) hn o).far (p := ⟨p3, 2, none⟩) hn s
  refine ⟨h3.cell, h3.free, ((h1.setCell (p := ⟨p3, 0, none⟩) hw t).setCell (p := ⟨p3, 1, none⟩) hw o).setCell (p := ⟨p3, 2, none⟩) hw s, OwnM.set3 om h3, ?_, by simpa using fr h4 n7, fr h5 n4, fr h6 nq⟩
  have := ((h3.set (i := 0) t).set (i := 1) o).set (i := 2) s
  simpa using this
theorem FTwoR.store3 {w : World} {B0 : Nat} {t o s : Value} {m : Mo} {p7 p4 gq p3 : Nat} {a b : Int} {f : Nat → Bool} {W : World} (hF : FTwoR w B0 t o s m p7 p4 gq p3 a b f W) (h2 : f 3 = false) (hw : w.heap.size ≤ p7) (n3 : p3 ≠ p7) (n4 : p4 ≠ p7) (nq : gq ≠ p7) :
    (∀ j, W.cell? ⟨p7, j, none⟩ = (#[.int .i64 0, .int .i64 0] : Array Value)[j]?) ∧ (∀ j, W.frozen? ⟨p7, j, none⟩ = false) ∧ FTwoR w B0 t o s m p7 p4 gq p3 a b (fun j => j == 3 || f j) ((W.setCell ⟨p7, 0, none⟩ (.int .i64 a)).setCell ⟨p7, 1, none⟩ (.int .i64 b)) := by
  obtain ⟨h1, om, h3, h4, h5, h6⟩ := hF
  rw [h2] at h4
  have h4 : Bx W p7 28 #[.int .i64 0, .int .i64 0] := h4
  have fr := fun {q : Nat} {tq : TypeId} {cs : Array Value} (hb : Bx W q tq cs) (hn : q ≠ p7) => (hb.far (p := ⟨p7, 0, none⟩) hn (.int .i64 a)).far (p := ⟨p7, 1, none⟩) hn (.int .i64 b)
  refine ⟨h4.cell, h4.free, (h1.setCell (p := ⟨p7, 0, none⟩) hw _).setCell (p := ⟨p7, 1, none⟩) hw _, OwnM.setH (OwnM.setH om h4) (h4.set (i := 0) (.int .i64 a)), by simpa using fr h3 n3, ?_, fr h5 n4, fr h6 nq⟩
  have := (h4.set (i := 0) (.int .i64 a)).set (i := 1) (.int .i64 b)
  simpa using this
end Go.Proofs.Ytgjpohhafmkhcaa
namespace Go.Proofs.Ytgjpohhafmkhcaa
open Go.RowKit L02 L13 L18 L20
theorem fld_ref {m : Mo} {sl g n : Int} (h : kErrF m sl g n = 0) (hk : (kind m sl g n).toNat = 3) : (fld m sl n).toNat ≤ 960 := by
  obtain ⟨ha, hn0, hnl⟩ := kErrF_inv h
  obtain ⟨c0, hr0, k, s, n2, o, t, _, hk16, hs, hu, hg, hso, hat, hown2, ho2, hob, hoo, ht, htt, hkinds, hfl⟩ := asked_ok ha
  obtain ⟨h1, h2, h3⟩ := chk_ok c0
  obtain ⟨i, rfl⟩ := Int.eq_ofNat_of_zero_le hn0
  rw [hkinds] at hnl
  have hi : i < o.fs.length := by omega
  have hf := hoo.2.2 i hi
  have e1 : kind m sl g i = (ty m.types o).getD i 0 := by rw [kind, if_pos h, hkinds, htt]; rfl
  have e2 : fld m sl i = o.fs.getD i 0 := by
    show (ob m (own m sl)).fs.getD (i : Int).toNat 0 = _
    rw [hown2, hob, Int.toNat_natCast]
  rw [← e1, ← e2] at hf
  have := hf.2 hk
  omega
set_option maxRecDepth 100000 in
set_option maxHeartbeats 8000000 in
theorem Root20_any (tv ov sv : Value) (m : Mo) (sl g n : Int) (M : Mo) (r hs hg : Int) (hM : M = rootM m sl g n) (hr : r = rootE m sl g n) (hhs : hs = rootS m sl g n) (hhg : hg = rootG m sl g n) (w : World) (h : Mod w tv ov sv m) :
    Calls Try.prog 17 #[.agg #[tv, ov, sv], .agg #[.int .i64 sl, .int .i64 g], .int .i64 n] w fun e w' => ∃ t' o' s', e = .returned (.tuple #[.agg #[t', o', s'], .agg #[.int .i64 hs, .int .i64 hg], .int .i64 r]) ∧ Mod w' t' o' s' M ∧ Below w.heap.size w w' := by
  have B : Below w.heap.size w w := Below.refl _ _
  have H := Lib.hid h
  have hno : r ≠ 0 → M = .nil ∧ hs = 0 ∧ hg = 0 := fun h => ⟨by rw [hM, rootM, ← hr, if_neg h], by rw [hhs, rootS, ← hr, if_neg h], by rw [hhg, rootG, ← hr, if_neg h]⟩
  by_cases h0 : kErrF m sl g n = 0
  · obtain ⟨i, n', o, x, rfl, hown, ho, hx, hfx, hchk⟩ := fld_ok h0
    obtain ⟨kd, hkd⟩ : ∃ kd, kd = kind m sl g i := ⟨_, rfl⟩
    have FT := Lib.hid (fun w h => field_ok tv ov sv m sl g i kd o n' h0 hkd hown ho w h)
    have HO := Lib.hid (And.intro ho hx)
    by_cases hk : kd.toNat = 3
    · have k3 : ((kd.toNat : Int) != 3) = false := by rw [bne_eq_false_iff_eq]; omega
      have hx960 := fld_ref h0 (by rw [← hkd]; exact hk)
      rw [hfx] at hx960
      by_cases hx0 : x = 0
      · have hr1 : r = 6 := by rw [hr, rootE, if_pos h0, ← hkd, if_pos hk, hfx, if_pos hx0]
        obtain ⟨e1, e2, e3⟩ := hno (by rw [hr1]; decide)
        have x0 : ((x.toNat : Int) == 0) = true := by rw [hx0]; rfl
        subst hr1; subst e1; subst e2; subst e3
        clear hr hM hhs hhg hno h0 hown ho hx hfx hkd hk h hx0
        go_enter Try.func17, Try.ntmps17
        go_upto_region 1 with (fail)
        refine wp_gen (fun Wv => Bx Wv (w.heap.size) (26) (#[tv, ov, sv]) ∧ Bx Wv (w.heap.size + 1) (28) (#[.int .i64 sl, .int .i64 g]) ∧ Bx Wv (w.heap.size + 1 + 1) (26) (#[.slice none 0 0, .slice none 0 0, .slice none 0 0]) ∧ Bx Wv (w.heap.size + 1 + 1 + 1) (28) (#[.int .i64 0, .int .i64 0]) ∧ Below w.heap.size w Wv) ⟨(((((Bx.at_ (by simp)).alloc _).alloc _).alloc _)), ((((Bx.at_ (by simp)).alloc _).alloc _)), (((Bx.at_ (by simp)).alloc _)), ((Bx.at_ (by simp))), (((((Below.refl _ w).alloc (by simp <;> omega) _).alloc (by simp <;> omega) _).alloc (by simp <;> omega) _).alloc (by simp <;> omega) _)⟩ ?_
        rintro wa1 ⟨g1, g2, g3, g7, b⟩
        replace B := B.trans (b.mono B.size); clear b
        have c_g1 := g1.cell; have f_g1 := g1.free; have a_g1 := fun o => (g1.alloc o).cell; have d_g1 := fun o o2 => ((g1.alloc o).alloc o2).cell; have e_g1 := fun o => (g1.alloc o).free
        have c_g2 := g2.cell; have f_g2 := g2.free; have a_g2 := fun o => (g2.alloc o).cell; have d_g2 := fun o o2 => ((g2.alloc o).alloc o2).cell; have e_g2 := fun o => (g2.alloc o).free
        have c_g3 := g3.cell; have f_g3 := g3.free; have a_g3 := fun o => (g3.alloc o).cell; have d_g3 := fun o o2 => ((g3.alloc o).alloc o2).cell; have e_g3 := fun o => (g3.alloc o).free
        have c_g7 := g7.cell; have f_g7 := g7.free; have a_g7 := fun o => (g7.alloc o).cell; have d_g7 := fun o o2 => ((g7.alloc o).alloc o2).cell; have e_g7 := fun o => (g7.alloc o).free
        have hp1 := g7.lt
        have hz1 := B.size
        go_wp2_with fail
        refine (FT.out _ (H.out.below B)).mono ?_
        rintro e wa2 ⟨t', o', s', gf, rfl, om, of_, b⟩
        try clear c_g1 f_g1 a_g1 d_g1 e_g1
        replace g1 := g1.below b; have c_g1 := g1.cell; have f_g1 := g1.free; have a_g1 := fun o => (g1.alloc o).cell; have d_g1 := fun o o2 => ((g1.alloc o).alloc o2).cell; have e_g1 := fun o => (g1.alloc o).free; try clear c_g2 f_g2 a_g2 d_g2 e_g2
        replace g2 := g2.below b; have c_g2 := g2.cell; have f_g2 := g2.free; have a_g2 := fun o => (g2.alloc o).cell; have d_g2 := fun o o2 => ((g2.alloc o).alloc o2).cell; have e_g2 := fun o => (g2.alloc o).free; try clear c_g3 f_g3 a_g3 d_g3 e_g3
        replace g3 := g3.below b; have c_g3 := g3.cell; have f_g3 := g3.free; have a_g3 := fun o => (g3.alloc o).cell; have d_g3 := fun o o2 => ((g3.alloc o).alloc o2).cell; have e_g3 := fun o => (g3.alloc o).free; try clear c_g7 f_g7 a_g7 d_g7 e_g7
        replace g7 := g7.below b; have c_g7 := g7.cell; have f_g7 := g7.free; have a_g7 := fun o => (g7.alloc o).cell; have d_g7 := fun o o2 => ((g7.alloc o).alloc o2).cell; have e_g7 := fun o => (g7.alloc o).free; replace B := B.trans (b.mono B.size); clear b
        obtain ⟨⟨tA, tn, tc, rfl⟩, ⟨oA, on, oc, rfl⟩, ⟨sA, sn, sc, rfl⟩⟩ := om.forms
        have hgf := (of_.cell HO.out.1 HO.out.2).2.2
        have m0 := (of_.cell HO.out.1 HO.out.2).1
        go_upto_region 2 with (fail)
        refine wp_gen (fun Wv => Bx Wv (wa2.heap.size) (26) (#[.slice tA tn tc, .slice oA on oc, .slice sA sn sc]) ∧ Below wa2.heap.size wa2 Wv) ⟨((Bx.at_ (by simp))), ((Below.refl _ wa2).alloc (by simp <;> omega) _)⟩ ?_
        rintro wa3 ⟨g4, b⟩
        try clear c_g1 f_g1 a_g1 d_g1 e_g1
        replace g1 := g1.below b; have c_g1 := g1.cell; have f_g1 := g1.free; have a_g1 := fun o => (g1.alloc o).cell; have d_g1 := fun o o2 => ((g1.alloc o).alloc o2).cell; have e_g1 := fun o => (g1.alloc o).free; try clear c_g2 f_g2 a_g2 d_g2 e_g2
        replace g2 := g2.below b; have c_g2 := g2.cell; have f_g2 := g2.free; have a_g2 := fun o => (g2.alloc o).cell; have d_g2 := fun o o2 => ((g2.alloc o).alloc o2).cell; have e_g2 := fun o => (g2.alloc o).free; try clear c_g3 f_g3 a_g3 d_g3 e_g3
        replace g3 := g3.below b; have c_g3 := g3.cell; have f_g3 := g3.free; have a_g3 := fun o => (g3.alloc o).cell; have d_g3 := fun o o2 => ((g3.alloc o).alloc o2).cell; have e_g3 := fun o => (g3.alloc o).free; try clear c_g7 f_g7 a_g7 d_g7 e_g7
        replace g7 := g7.below b; have c_g7 := g7.cell; have f_g7 := g7.free; have a_g7 := fun o => (g7.alloc o).cell; have d_g7 := fun o o2 => ((g7.alloc o).alloc o2).cell; have e_g7 := fun o => (g7.alloc o).free; replace om := om.below b; replace of_ := of_.below b; replace m0 := cell_later b m0; replace B := B.trans (b.mono B.size); clear b
        have c_g4 := g4.cell; have f_g4 := g4.free; have a_g4 := fun o => (g4.alloc o).cell; have d_g4 := fun o o2 => ((g4.alloc o).alloc o2).cell; have e_g4 := fun o => (g4.alloc o).free
        go_wp2
        refine bodyPost_ret (v := .tuple #[.agg #[.slice none 0 0, .slice none 0 0, .slice none 0 0], .agg #[.int .i64 0, .int .i64 0], .int .i64 6]) (by simp [results, Try.results17, go_sem, c_g3, f_g3, c_g7, f_g7]) rfl ?_
        refine ⟨_, _, _, rfl, Mod.nil _, ?_⟩
        (repeat (first | refine Below.setCell ?_ (by first | exact Nat.le_refl _ | (simp <;> omega)) _ | refine Below.alloc ?_ (by first | exact B.size | (have := B.size; simp <;> omega)) _)); exact B
      · have x0 : ((x.toNat : Int) == 0) = false := by rw [beq_eq_false_iff_ne]; intro e; exact hx0 (UInt64.toNat_inj.1 (by simpa using (by omega : x.toNat = 0)))
        have hxp : 0 < x.toNat := by have := (beq_eq_false_iff_ne.1 x0); omega
        obtain ⟨nn, hnn⟩ : ∃ nn : Int, nn = (x.toNat : Int) - 1 := ⟨_, rfl⟩
        have hw1 : IntKind.u64.wrap ((x.toNat : Int) - 1) = nn := by rw [hnn]; show ((x.toNat : Int) - 1) % 18446744073709551616 = _; omega
        have hw2 : IntKind.i64.wrap nn = nn := IntWalk.i64_in _ (by omega)
        obtain ⟨a, b, ok, m2, hHC, hway⟩ := handle_way (m := m) (n := nn) hchk (by omega)
        have HC := Lib.hid hHC; have HW := Lib.hid hway
        have hr1 : next m.slots = none → r = 23 := fun hn => by rw [hr, rootE, if_pos h0, ← hkd, if_pos hk, hfx, if_neg hx0, if_pos hn]
        have hr2 : ∀ k, next m.slots = some k → r = 0 := fun k hn => by rw [hr, rootE, if_pos h0, ← hkd, if_pos hk, hfx, if_neg hx0, if_neg (by rw [hn]; exact fun e => by cases e)]
        have HR1 := Lib.hid hr1; have HR2 := Lib.hid hr2; have HNO := Lib.hid hno
        have hyes : r = 0 → M = ⟨m.types, m.objs, givS m ((x.toNat - 1 : Nat) : Int) ((next m.slots).getD 0)⟩ ∧ hs = ((next m.slots).getD 0 : Nat) ∧ hg = (m.slots.getD ((next m.slots).getD 0) .none).gen + 1 := fun h => ⟨by rw [hM, rootM, ← hr, if_pos h, hfx], by rw [hhs, rootS, ← hr, if_pos h], by rw [hhg, rootG, ← hr, if_pos h]⟩
        have HYES := Lib.hid hyes
        have HNN := Lib.hid hnn; have HX1 := Lib.hid hxp
        clear hr hM hhs hhg hno h0 hown ho hx hfx hkd hk h hx0 hHC hway hr1 hr2 hyes hnn
        go_enter Try.func17, Try.ntmps17
        go_upto_region 1 with (fail)
        refine wp_gen (fun Wv => Bx Wv (w.heap.size) (26) (#[tv, ov, sv]) ∧ Bx Wv (w.heap.size + 1) (28) (#[.int .i64 sl, .int .i64 g]) ∧ Bx Wv (w.heap.size + 1 + 1) (26) (#[.slice none 0 0, .slice none 0 0, .slice none 0 0]) ∧ Bx Wv (w.heap.size + 1 + 1 + 1) (28) (#[.int .i64 0, .int .i64 0]) ∧ Below w.heap.size w Wv) ⟨(((((Bx.at_ (by simp)).alloc _).alloc _).alloc _)), ((((Bx.at_ (by simp)).alloc _).alloc _)), (((Bx.at_ (by simp)).alloc _)), ((Bx.at_ (by simp))), (((((Below.refl _ w).alloc (by simp <;> omega) _).alloc (by simp <;> omega) _).alloc (by simp <;> omega) _).alloc (by simp <;> omega) _)⟩ ?_
        rintro wa1 ⟨g1, g2, g3, g7, b⟩
        replace B := B.trans (b.mono B.size); clear b
        have c_g1 := g1.cell; have f_g1 := g1.free; have a_g1 := fun o => (g1.alloc o).cell; have d_g1 := fun o o2 => ((g1.alloc o).alloc o2).cell; have e_g1 := fun o => (g1.alloc o).free
        have c_g2 := g2.cell; have f_g2 := g2.free; have a_g2 := fun o => (g2.alloc o).cell; have d_g2 := fun o o2 => ((g2.alloc o).alloc o2).cell; have e_g2 := fun o => (g2.alloc o).free
        have c_g3 := g3.cell; have f_g3 := g3.free; have a_g3 := fun o => (g3.alloc o).cell; have d_g3 := fun o o2 => ((g3.alloc o).alloc o2).cell; have e_g3 := fun o => (g3.alloc o).free
        have c_g7 := g7.cell; have f_g7 := g7.free; have a_g7 := fun o => (g7.alloc o).cell; have d_g7 := fun o o2 => ((g7.alloc o).alloc o2).cell; have e_g7 := fun o => (g7.alloc o).free
        have hp1 := g7.lt
        have hz1 := B.size
        go_wp2_with fail
        refine (FT.out _ (H.out.below B)).mono ?_
        rintro e wa2 ⟨t', o', s', gf, rfl, om, of_, b⟩
        try clear c_g1 f_g1 a_g1 d_g1 e_g1
        replace g1 := g1.below b; have c_g1 := g1.cell; have f_g1 := g1.free; have a_g1 := fun o => (g1.alloc o).cell; have d_g1 := fun o o2 => ((g1.alloc o).alloc o2).cell; have e_g1 := fun o => (g1.alloc o).free; try clear c_g2 f_g2 a_g2 d_g2 e_g2
        replace g2 := g2.below b; have c_g2 := g2.cell; have f_g2 := g2.free; have a_g2 := fun o => (g2.alloc o).cell; have d_g2 := fun o o2 => ((g2.alloc o).alloc o2).cell; have e_g2 := fun o => (g2.alloc o).free; try clear c_g3 f_g3 a_g3 d_g3 e_g3
        replace g3 := g3.below b; have c_g3 := g3.cell; have f_g3 := g3.free; have a_g3 := fun o => (g3.alloc o).cell; have d_g3 := fun o o2 => ((g3.alloc o).alloc o2).cell; have e_g3 := fun o => (g3.alloc o).free; try clear c_g7 f_g7 a_g7 d_g7 e_g7
        replace g7 := g7.below b; have c_g7 := g7.cell; have f_g7 := g7.free; have a_g7 := fun o => (g7.alloc o).cell; have d_g7 := fun o o2 => ((g7.alloc o).alloc o2).cell; have e_g7 := fun o => (g7.alloc o).free; replace B := B.trans (b.mono B.size); clear b
        obtain ⟨⟨tA, tn, tc, rfl⟩, ⟨oA, on, oc, rfl⟩, ⟨sA, sn, sc, rfl⟩⟩ := om.forms
        have hgf := (of_.cell HO.out.1 HO.out.2).2.2
        have m0 := (of_.cell HO.out.1 HO.out.2).1
        go_upto_region 2 with (fail)
        refine wp_gen (fun Wv => Bx Wv (wa2.heap.size) (26) (#[.slice tA tn tc, .slice oA on oc, .slice sA sn sc]) ∧ Below wa2.heap.size wa2 Wv) ⟨((Bx.at_ (by simp))), ((Below.refl _ wa2).alloc (by simp <;> omega) _)⟩ ?_
        rintro wa3 ⟨g4, b⟩
        try clear c_g1 f_g1 a_g1 d_g1 e_g1
        replace g1 := g1.below b; have c_g1 := g1.cell; have f_g1 := g1.free; have a_g1 := fun o => (g1.alloc o).cell; have d_g1 := fun o o2 => ((g1.alloc o).alloc o2).cell; have e_g1 := fun o => (g1.alloc o).free; try clear c_g2 f_g2 a_g2 d_g2 e_g2
        replace g2 := g2.below b; have c_g2 := g2.cell; have f_g2 := g2.free; have a_g2 := fun o => (g2.alloc o).cell; have d_g2 := fun o o2 => ((g2.alloc o).alloc o2).cell; have e_g2 := fun o => (g2.alloc o).free; try clear c_g3 f_g3 a_g3 d_g3 e_g3
        replace g3 := g3.below b; have c_g3 := g3.cell; have f_g3 := g3.free; have a_g3 := fun o => (g3.alloc o).cell; have d_g3 := fun o o2 => ((g3.alloc o).alloc o2).cell; have e_g3 := fun o => (g3.alloc o).free; try clear c_g7 f_g7 a_g7 d_g7 e_g7
        replace g7 := g7.below b; have c_g7 := g7.cell; have f_g7 := g7.free; have a_g7 := fun o => (g7.alloc o).cell; have d_g7 := fun o o2 => ((g7.alloc o).alloc o2).cell; have e_g7 := fun o => (g7.alloc o).free; replace om := om.below b; replace of_ := of_.below b; replace m0 := cell_later b m0; replace B := B.trans (b.mono B.size); clear b
        have c_g4 := g4.cell; have f_g4 := g4.free; have a_g4 := fun o => (g4.alloc o).cell; have d_g4 := fun o o2 => ((g4.alloc o).alloc o2).cell; have e_g4 := fun o => (g4.alloc o).free
        go_upto_region 8 with (fail)
        have hp2 := g4.lt; have hp3 := g7.lt
        have hs3 := ne_of_or (own_not_bx om.s g3 (by decide)); have hs7 := ne_of_or (own_not_bx om.s g7 (by decide)); have hs4 := ne_of_or (own_not_bx om.s g4 (by decide))
        have hsgf : (Value.slice sA sn sc).ownBlock ≠ some gf := by
          obtain ⟨vs, nf, cf, _, _, f4, _, f6⟩ := of_
          exact ne_of_or (own_unlike om.s (f4 n' _ _ f6 HO.out.1) (by decide))
        have hrow : ∀ k, (Value.slice sA sn sc).ownBlock = some k → k < wa3.heap.size := fun k hk => (om.s.lt k hk).2
        have hzz := B.size
        have hB0 := hz1
        have START : FHandle w (fun c W => OwnM W wa1.heap.size 67 (.slice tA tn tc) (.slice oA on oc) (.slice sA sn sc) (cond c m2 m)) [(w.heap.size + 1 + 1, 26, #[.slice none 0 0, .slice none 0 0, .slice none 0 0]), (w.heap.size + 1 + 1 + 1, 28, #[.int .i64 0, .int .i64 0]), (wa2.heap.size, 26, #[.slice tA tn tc, .slice oA on oc, .slice sA sn sc])] gf i x.toNat a b wa3.heap.size 0 (fun _ => false) wa3.drew :=
          ⟨⟨⟨om.t, om.o, om.s⟩, Nat.le_refl _⟩, B.drew, List.forall_mem_cons.2 ⟨g3, List.forall_mem_cons.2 ⟨g7, List.forall_mem_cons.2 ⟨g4, fun _ h => by cases h⟩⟩⟩, m0, (fun h => by cases h), (fun h => by cases h), (fun h => by cases h), (fun h => by cases h)⟩
        have HSTART := Lib.hid START
        clear START om of_ g1 g2 g3 g4 g7 m0 B c_g1 c_g2 f_g1 f_g2 a_g1 a_g2 d_g1 d_g2 e_g1 e_g2 c_g3 f_g3 a_g3 d_g3 e_g3 c_g4 f_g4 a_g4 d_g4 e_g4 c_g7 f_g7 a_g7 d_g7 e_g7
        refine wp_region_handle w (fun c W => OwnM W wa1.heap.size 67 (.slice tA tn tc) (.slice oA on oc) (.slice sA sn sc) (cond c m2 m)) [(w.heap.size + 1 + 1, 26, #[.slice none 0 0, .slice none 0 0, .slice none 0 0]), (w.heap.size + 1 + 1 + 1, 28, #[.int .i64 0, .int .i64 0]), (wa2.heap.size, 26, #[.slice tA tn tc, .slice oA on oc, .slice sA sn sc])] gf i x.toNat a b ok wa3.heap.size #[.agg #[.slice tA tn tc, .slice oA on oc, .slice sA sn sc], .int .i64 nn] (Value.slice sA sn sc).ownBlock
          (by kernel_rfl) (by kernel_rfl) (by kernel_rfl) (by kernel_rfl) HSTART.out hzz (List.forall_mem_cons.2 ⟨hs3, List.forall_mem_cons.2 ⟨hs7, List.forall_mem_cons.2 ⟨hs4, fun _ h => by cases h⟩⟩⟩) hsgf hrow (fun c W o h => h.below ((Below.refl _ W).alloc (Nat.le_refl _) _)) ?_ ?_
        · intro W hR hzW hBW
          have h1 : wa1.heap.size ≤ W.heap.size := by have := hgf; omega
          refine (HC.out _ _ _ _ W hR h1).mono fun e W' ⟨e1, e2, e3, e4⟩ => ⟨e1, e2, hBW.trans (e3.mono hz1), e4⟩
        · intro gq
          haveI : Nonempty (FXN (FHandle w (fun c W => OwnM W wa1.heap.size 67 (.slice tA tn tc) (.slice oA on oc) (.slice sA sn sc) (cond c m2 m)) [(w.heap.size + 1 + 1, 26, #[.slice none 0 0, .slice none 0 0, .slice none 0 0]), (w.heap.size + 1 + 1 + 1, 28, #[.int .i64 0, .int .i64 0]), (wa2.heap.size, 26, #[.slice tA tn tc, .slice oA on oc, .slice sA sn sc])] gf i x.toNat a b wa3.heap.size gq)) := ⟨⟨_, _, FHandle.agree (by simp) HSTART.out⟩⟩
          have ca := fun x : FXN (FHandle w (fun c W => OwnM W wa1.heap.size 67 (.slice tA tn tc) (.slice oA on oc) (.slice sA sn sc) (cond c m2 m)) [(w.heap.size + 1 + 1, 26, #[.slice none 0 0, .slice none 0 0, .slice none 0 0]), (w.heap.size + 1 + 1 + 1, 28, #[.int .i64 0, .int .i64 0]), (wa2.heap.size, 26, #[.slice tA tn tc, .slice oA on oc, .slice sA sn sc])] gf i x.toNat a b wa3.heap.size gq) => (by obtain ⟨_, h⟩ := x.h; exact h.2.2.1 (wa2.heap.size, 26, #[.slice tA tn tc, .slice oA on oc, .slice sA sn sc]) (by simp) : Bx x.W wa2.heap.size 26 #[.slice tA tn tc, .slice oA on oc, .slice sA sn sc]).cell
          have cb := fun y : FXN (FHandle w (fun c W => OwnM W wa1.heap.size 67 (.slice tA tn tc) (.slice oA on oc) (.slice sA sn sc) (cond c m2 m)) [(w.heap.size + 1 + 1, 26, #[.slice none 0 0, .slice none 0 0, .slice none 0 0]), (w.heap.size + 1 + 1 + 1, 28, #[.int .i64 0, .int .i64 0]), (wa2.heap.size, 26, #[.slice tA tn tc, .slice oA on oc, .slice sA sn sc])] gf i x.toNat a b wa3.heap.size gq) => (by obtain ⟨_, h⟩ := y.h; exact h.2.2.2.1 : y.W.cell? ⟨gf, i, none⟩ = some (.int .u64 x.toNat))
          iterate 2 (refine wpM_read FHandle.dep rfl (by decide) (by decide) ?_; go_big_quiet_step (fail); refine wpQuiet_nil ?_)
          refine wpM_pure FHandle.dep (by decide) (by decide) rfl (v := .pointer (some ⟨gf, i, none⟩)) (fun W => by simp [execOp, Act.eval, go_sem]) ?_
          simp only [Act.put, List.setIfInBounds_toArray, List.set_cons_zero, List.set_cons_succ]
          iterate 3 (refine wpM_read FHandle.dep rfl (by decide) (by decide) ?_; go_big_quiet_step (fail); refine wpQuiet_nil ?_)
          refine wpM_new (by decide) rfl (by show TH _ 6 _; unfold TH; rw [if_pos rfl]; intro W; simp [execOp, resolve, invoke, Act.eval, go_sem]) ?_
          simp only [Act.put, List.setIfInBounds_toArray, List.set_cons_zero, List.set_cons_succ]
          rw [show valH (.tuple #[.agg #[.int .i64 a, .int .i64 b], .bool ok]) gq 6 = .tuple #[.agg #[.int .i64 a, .int .i64 b], .bool ok] from rfl]
          iterate 3 (refine wpM_read FHandle.dep rfl (by decide) (by decide) ?_; go_big_quiet_step (fail); refine wpQuiet_nil ?_)
          refine wpM_new (by decide) rfl (by show TH _ 10 _; unfold TH; rw [if_neg (by decide)]; intro W; simp [execOp, go_sem]) ?_
          simp only [Act.put, List.setIfInBounds_toArray, List.set_cons_zero, List.set_cons_succ]
          rw [show valH (.tuple #[.agg #[.int .i64 a, .int .i64 b], .bool ok]) gq 10 = .pointer (some ⟨gq, 0, none⟩) from rfl]
          refine wpM_store FHandle.dep (by decide) rfl 28 (.tmp 13) (.tmp 50) rfl (by rfl) (p := .pointer (some ⟨gq, 0, none⟩)) (u := .agg #[.int .i64 a, .int .i64 b]) (by rfl) (by rfl) [10] (by kernel_rfl) (fun f W hF h0 h1 => ?_) ?_
          · obtain ⟨⟨k0, k1, k2⟩, h2⟩ := FHandle.store hF hzz (h1 10 (by simp)) h0 (fun c W p cs u hg hR => OwnM.setH hR hg)
            refine ⟨_, ?_, h2⟩
            simp [go_sem, k0, k1, k2]
          simp only [Act.put, List.setIfInBounds_toArray, List.set_cons_zero, List.set_cons_succ]
          refine wpM_read FHandle.dep rfl (by decide) (by decide) ?_; go_big_quiet_step (fail); refine wpQuiet_nil ?_
          refine wpM_nil ?_
          intro wy hF
          clear this ca cb HSTART
          obtain ⟨⟨om, _⟩, B, hps, _, _, h6, _, h8⟩ := hF
          have g3 := hps _ List.mem_cons_self
          have g7 := hps _ (List.mem_cons_of_mem _ List.mem_cons_self)
          have g4 := hps _ (List.mem_cons_of_mem _ (List.mem_cons_of_mem _ List.mem_cons_self))
          have g9 := h8 rfl
          obtain ⟨h6a, h6b, h6c⟩ := h6 rfl
          have hq3 := h6a _ List.mem_cons_self
          have hq7 := h6a _ (List.mem_cons_of_mem _ List.mem_cons_self)
          dsimp only at g3 g7 g4 g9 hq3 hq7 om
          rw [show (cond true m2 m) = m2 from rfl] at om
          clear hps h6 h8 h6a
          cases ok
          · have hn : next m.slots = none := by
              rcases HW.out with ⟨_, h⟩ | ⟨h, _⟩
              · exact h
              · cases h
            obtain rfl : r = 23 := HR1.out hn
            obtain ⟨rfl, rfl, rfl⟩ := HNO.out (by decide)
            have c3 := g3.cell; have f3 := g3.free; have c7 := g7.cell; have f7 := g7.free
            go_wp2
            refine bodyPost_ret (v := .tuple #[.agg #[.slice none 0 0, .slice none 0 0, .slice none 0 0], .agg #[.int .i64 0, .int .i64 0], .int .i64 23]) (by simp [results, Try.results17, go_sem, c3, f3, c7, f7]) rfl ?_
            refine ⟨_, _, _, rfl, Mod.nil _, ?_⟩
            (repeat (first | refine Below.setCell ?_ (by first | exact Nat.le_refl _ | (simp <;> omega)) _ | refine Below.alloc ?_ (by first | exact B.size | (have := B.size; simp <;> omega)) _)); exact B
          · obtain ⟨k, s, hnx, hsk, ea, eb, em⟩ : ∃ k s, next m.slots = some k ∧ m.slots[k]? = some s ∧ a = (k : Int) ∧ b = s.gen + 1 ∧ m2 = ⟨m.types, m.objs, m.slots.set k ⟨s.gen + 1, true, nn⟩⟩ := by
              rcases HW.out with ⟨h, _⟩ | ⟨_, h⟩
              · cases h
              · exact h
            obtain rfl : r = 0 := HR2.out k hnx
            obtain ⟨e1, e2, e3⟩ := HYES.out rfl
            rw [hnx] at e1 e2 e3
            have hgd : m.slots.getD k .none = s := by simp [List.getD_eq_getElem?_getD, hsk]
            have hMM : M = m2 := by
              rw [e1, em]
              show (⟨m.types, m.objs, m.slots.set k ⟨(m.slots.getD k .none).gen + 1, true, _⟩⟩ : Mo) = _
              rw [hgd]
              have := HNN.out; have := HX1.out
              rw [show ((x.toNat - 1 : Nat) : Int) = nn by omega]
            have hha : hs = a := by rw [e2, ea]; rfl
            have hhb : hg = b := by rw [e3, eb]; show (m.slots.getD k .none).gen + 1 = _; rw [hgd]
            subst hMM; subst hha; subst hhb
            clear e1 e2 e3 ea eb em hgd hnx hsk
            go_upto_region 11 with (fail)
            have START : (FTwoR w wa1.heap.size (.slice tA tn tc) (.slice oA on oc) (.slice sA sn sc) M (w.heap.size + 1 + 1 + 1) wa2.heap.size gq (w.heap.size + 1 + 1) hs hg) (fun _ => false) wy.drew := ⟨B.drew, ⟨om.t, om.o, om.s⟩, g3, g7, g4, g9⟩
            have n4a : wa2.heap.size ≠ w.heap.size + 1 + 1 := by have := hgf; omega
            have n4b : wa2.heap.size ≠ w.heap.size + 1 + 1 + 1 := by have := hgf; omega
            haveI : Nonempty (FXN (FTwoR w wa1.heap.size (.slice tA tn tc) (.slice oA on oc) (.slice sA sn sc) M (w.heap.size + 1 + 1 + 1) wa2.heap.size gq (w.heap.size + 1 + 1) hs hg)) := ⟨⟨_, _, START⟩⟩
            have ca := fun x : FXN (FTwoR w wa1.heap.size (.slice tA tn tc) (.slice oA on oc) (.slice sA sn sc) M (w.heap.size + 1 + 1 + 1) wa2.heap.size gq (w.heap.size + 1 + 1) hs hg) => (by obtain ⟨_, h⟩ := x.h; exact h.2.2.2.2.1 : Bx x.W wa2.heap.size 26 #[.slice tA tn tc, .slice oA on oc, .slice sA sn sc]).cell
            have cb := fun x : FXN (FTwoR w wa1.heap.size (.slice tA tn tc) (.slice oA on oc) (.slice sA sn sc) M (w.heap.size + 1 + 1 + 1) wa2.heap.size gq (w.heap.size + 1 + 1) hs hg) => (by obtain ⟨_, h⟩ := x.h; exact h.2.2.2.2.2 : Bx x.W gq 28 #[.int .i64 hs, .int .i64 hg]).cell
            clear om B g3 g7 g4 g9
            refine wp_region_N (FTwoR w wa1.heap.size (.slice tA tn tc) (.slice oA on oc) (.slice sA sn sc) M (w.heap.size + 1 + 1 + 1) wa2.heap.size gq (w.heap.size + 1 + 1) hs hg) [2, 3] FTwoR.dep (by kernel_rfl) (by kernel_rfl) (by kernel_rfl) START ?_
            iterate 2 (refine wpN_read FTwoR.dep rfl (by decide) ?_; go_big_quiet_step (fail); refine wpQuiet_nil ?_)
            refine wpN_storeD FTwoR.dep rfl 26 (.tmp 6) (.tmp 56) rfl (by rfl) (p := .pointer (some ⟨w.heap.size + 1 + 1, 0, none⟩)) (u := .agg #[.slice tA tn tc, .slice oA on oc, .slice sA sn sc]) (by rfl) (by rfl) [] (by kernel_rfl) (fun f W hF h0 h1 => ?_) ?_
            · obtain ⟨k0, k1, h2⟩ := FTwoR.store2 hF h0 (by omega) (by omega) n4a hq3
              refine ⟨_, ?_, h2⟩
              simp [go_sem, k0, k1]
            simp only [Act.put, List.setIfInBounds_toArray, List.set_cons_zero, List.set_cons_succ]
            refine wpN_storeD FTwoR.dep rfl 28 (.tmp 7) (.tmp 57) rfl (by rfl) (p := .pointer (some ⟨w.heap.size + 1 + 1 + 1, 0, none⟩)) (u := .agg #[.int .i64 hs, .int .i64 hg]) (by rfl) (by rfl) [] (by kernel_rfl) (fun f W hF h0 h1 => ?_) ?_
            · obtain ⟨k0, k1, h2⟩ := FTwoR.store3 hF h0 (by omega) (by omega) n4b hq7
              refine ⟨_, ?_, h2⟩
              simp [go_sem, k0, k1]
            simp only [Act.put, List.setIfInBounds_toArray, List.set_cons_zero, List.set_cons_succ]
            iterate 1 (refine wpN_read FTwoR.dep rfl (by decide) ?_; go_big_quiet_step (fail); refine wpQuiet_nil ?_)
            show ∀ w', _ → _
            intro w' hF
            obtain ⟨B, om, g3, g7, _, _⟩ := hF
            have c3 := g3.cell; have c7 := g7.cell
            simp only [if_true] at c3 c7
            clear this ca cb START
            go_wp2
            refine bodyPost_ret (v := .tuple #[.agg #[.slice tA tn tc, .slice oA on oc, .slice sA sn sc], .agg #[.int .i64 hs, .int .i64 hg], .int .i64 0]) (by simp [results, Try.results17, go_sem, c3, c7]) rfl ?_
            exact ⟨_, _, _, rfl, om.rd, B⟩
    · have hr1 : r = 42 := by rw [hr, rootE, if_pos h0, ← hkd, if_neg hk]
      obtain ⟨e1, e2, e3⟩ := hno (by rw [hr1]; decide)
      have k3 : ((kd.toNat : Int) != 3) = true := by rw [bne_iff_ne]; omega
      subst hr1; subst e1; subst e2; subst e3
      clear hr hM hhs hhg hno h0 hown ho hx hfx hkd hk h hchk
      go_enter Try.func17, Try.ntmps17
      go_upto_region 1 with (fail)
      refine wp_gen (fun Wv => Bx Wv (w.heap.size) (26) (#[tv, ov, sv]) ∧ Bx Wv (w.heap.size + 1) (28) (#[.int .i64 sl, .int .i64 g]) ∧ Bx Wv (w.heap.size + 1 + 1) (26) (#[.slice none 0 0, .slice none 0 0, .slice none 0 0]) ∧ Bx Wv (w.heap.size + 1 + 1 + 1) (28) (#[.int .i64 0, .int .i64 0]) ∧ Below w.heap.size w Wv) ⟨(((((Bx.at_ (by simp)).alloc _).alloc _).alloc _)), ((((Bx.at_ (by simp)).alloc _).alloc _)), (((Bx.at_ (by simp)).alloc _)), ((Bx.at_ (by simp))), (((((Below.refl _ w).alloc (by simp <;> omega) _).alloc (by simp <;> omega) _).alloc (by simp <;> omega) _).alloc (by simp <;> omega) _)⟩ ?_
      rintro wa1 ⟨g1, g2, g3, g7, b⟩
      replace B := B.trans (b.mono B.size); clear b
      have c_g1 := g1.cell; have f_g1 := g1.free; have a_g1 := fun o => (g1.alloc o).cell; have d_g1 := fun o o2 => ((g1.alloc o).alloc o2).cell; have e_g1 := fun o => (g1.alloc o).free
      have c_g2 := g2.cell; have f_g2 := g2.free; have a_g2 := fun o => (g2.alloc o).cell; have d_g2 := fun o o2 => ((g2.alloc o).alloc o2).cell; have e_g2 := fun o => (g2.alloc o).free
      have c_g3 := g3.cell; have f_g3 := g3.free; have a_g3 := fun o => (g3.alloc o).cell; have d_g3 := fun o o2 => ((g3.alloc o).alloc o2).cell; have e_g3 := fun o => (g3.alloc o).free
      have c_g7 := g7.cell; have f_g7 := g7.free; have a_g7 := fun o => (g7.alloc o).cell; have d_g7 := fun o o2 => ((g7.alloc o).alloc o2).cell; have e_g7 := fun o => (g7.alloc o).free
      have hp1 := g7.lt
      have hz1 := B.size
      go_wp2_with fail
      refine (FT.out _ (H.out.below B)).mono ?_
      rintro e wa2 ⟨t', o', s', gf, rfl, om, of_, b⟩
      try clear c_g1 f_g1 a_g1 d_g1 e_g1
      replace g1 := g1.below b; have c_g1 := g1.cell; have f_g1 := g1.free; have a_g1 := fun o => (g1.alloc o).cell; have d_g1 := fun o o2 => ((g1.alloc o).alloc o2).cell; have e_g1 := fun o => (g1.alloc o).free; try clear c_g2 f_g2 a_g2 d_g2 e_g2
      replace g2 := g2.below b; have c_g2 := g2.cell; have f_g2 := g2.free; have a_g2 := fun o => (g2.alloc o).cell; have d_g2 := fun o o2 => ((g2.alloc o).alloc o2).cell; have e_g2 := fun o => (g2.alloc o).free; try clear c_g3 f_g3 a_g3 d_g3 e_g3
      replace g3 := g3.below b; have c_g3 := g3.cell; have f_g3 := g3.free; have a_g3 := fun o => (g3.alloc o).cell; have d_g3 := fun o o2 => ((g3.alloc o).alloc o2).cell; have e_g3 := fun o => (g3.alloc o).free; try clear c_g7 f_g7 a_g7 d_g7 e_g7
      replace g7 := g7.below b; have c_g7 := g7.cell; have f_g7 := g7.free; have a_g7 := fun o => (g7.alloc o).cell; have d_g7 := fun o o2 => ((g7.alloc o).alloc o2).cell; have e_g7 := fun o => (g7.alloc o).free; replace B := B.trans (b.mono B.size); clear b
      obtain ⟨⟨tA, tn, tc, rfl⟩, ⟨oA, on, oc, rfl⟩, ⟨sA, sn, sc, rfl⟩⟩ := om.forms
      have hgf := (of_.cell HO.out.1 HO.out.2).2.2
      have m0 := (of_.cell HO.out.1 HO.out.2).1
      go_upto_region 2 with (fail)
      refine wp_gen (fun Wv => Bx Wv (wa2.heap.size) (26) (#[.slice tA tn tc, .slice oA on oc, .slice sA sn sc]) ∧ Below wa2.heap.size wa2 Wv) ⟨((Bx.at_ (by simp))), ((Below.refl _ wa2).alloc (by simp <;> omega) _)⟩ ?_
      rintro wa3 ⟨g4, b⟩
      try clear c_g1 f_g1 a_g1 d_g1 e_g1
      replace g1 := g1.below b; have c_g1 := g1.cell; have f_g1 := g1.free; have a_g1 := fun o => (g1.alloc o).cell; have d_g1 := fun o o2 => ((g1.alloc o).alloc o2).cell; have e_g1 := fun o => (g1.alloc o).free; try clear c_g2 f_g2 a_g2 d_g2 e_g2
      replace g2 := g2.below b; have c_g2 := g2.cell; have f_g2 := g2.free; have a_g2 := fun o => (g2.alloc o).cell; have d_g2 := fun o o2 => ((g2.alloc o).alloc o2).cell; have e_g2 := fun o => (g2.alloc o).free; try clear c_g3 f_g3 a_g3 d_g3 e_g3
      replace g3 := g3.below b; have c_g3 := g3.cell; have f_g3 := g3.free; have a_g3 := fun o => (g3.alloc o).cell; have d_g3 := fun o o2 => ((g3.alloc o).alloc o2).cell; have e_g3 := fun o => (g3.alloc o).free; try clear c_g7 f_g7 a_g7 d_g7 e_g7
      replace g7 := g7.below b; have c_g7 := g7.cell; have f_g7 := g7.free; have a_g7 := fun o => (g7.alloc o).cell; have d_g7 := fun o o2 => ((g7.alloc o).alloc o2).cell; have e_g7 := fun o => (g7.alloc o).free; replace om := om.below b; replace of_ := of_.below b; replace m0 := cell_later b m0; replace B := B.trans (b.mono B.size); clear b
      have c_g4 := g4.cell; have f_g4 := g4.free; have a_g4 := fun o => (g4.alloc o).cell; have d_g4 := fun o o2 => ((g4.alloc o).alloc o2).cell; have e_g4 := fun o => (g4.alloc o).free
      go_wp2
      refine bodyPost_ret (v := .tuple #[.agg #[.slice none 0 0, .slice none 0 0, .slice none 0 0], .agg #[.int .i64 0, .int .i64 0], .int .i64 42]) (by simp [results, Try.results17, go_sem, c_g3, f_g3, c_g7, f_g7]) rfl ?_
      refine ⟨_, _, _, rfl, Mod.nil _, ?_⟩
      (repeat (first | refine Below.setCell ?_ (by first | exact Nat.le_refl _ | (simp <;> omega)) _ | refine Below.alloc ?_ (by first | exact B.size | (have := B.size; simp <;> omega)) _)); exact B
  · have hr1 : r = kErrF m sl g n := by rw [hr, rootE, if_neg h0]
    have FT := Lib.hid (fun w h => field_no tv ov sv m sl g n r hr1 (by rw [hr1]; exact h0) w h)
    obtain ⟨e1, e2, e3⟩ := hno (by rw [hr1]; exact h0)
    have hne : (r != 0) = true := by rw [bne_iff_ne, hr1]; exact h0
    subst e1; subst e2; subst e3
    clear hr hM hhs hhg hr1 h0 h hno
    go_enter Try.func17, Try.ntmps17
    go_upto_region 1 with (fail)
    refine wp_gen (fun Wv => Bx Wv (w.heap.size) (26) (#[tv, ov, sv]) ∧ Bx Wv (w.heap.size + 1) (28) (#[.int .i64 sl, .int .i64 g]) ∧ Bx Wv (w.heap.size + 1 + 1) (26) (#[.slice none 0 0, .slice none 0 0, .slice none 0 0]) ∧ Bx Wv (w.heap.size + 1 + 1 + 1) (28) (#[.int .i64 0, .int .i64 0]) ∧ Below w.heap.size w Wv) ⟨(((((Bx.at_ (by simp)).alloc _).alloc _).alloc _)), ((((Bx.at_ (by simp)).alloc _).alloc _)), (((Bx.at_ (by simp)).alloc _)), ((Bx.at_ (by simp))), (((((Below.refl _ w).alloc (by simp <;> omega) _).alloc (by simp <;> omega) _).alloc (by simp <;> omega) _).alloc (by simp <;> omega) _)⟩ ?_
    rintro wa1 ⟨g1, g2, g3, g7, b⟩
    replace B := B.trans (b.mono B.size); clear b
    have c_g1 := g1.cell; have f_g1 := g1.free; have a_g1 := fun o => (g1.alloc o).cell; have d_g1 := fun o o2 => ((g1.alloc o).alloc o2).cell; have e_g1 := fun o => (g1.alloc o).free
    have c_g2 := g2.cell; have f_g2 := g2.free; have a_g2 := fun o => (g2.alloc o).cell; have d_g2 := fun o o2 => ((g2.alloc o).alloc o2).cell; have e_g2 := fun o => (g2.alloc o).free
    have c_g3 := g3.cell; have f_g3 := g3.free; have a_g3 := fun o => (g3.alloc o).cell; have d_g3 := fun o o2 => ((g3.alloc o).alloc o2).cell; have e_g3 := fun o => (g3.alloc o).free
    have c_g7 := g7.cell; have f_g7 := g7.free; have a_g7 := fun o => (g7.alloc o).cell; have d_g7 := fun o o2 => ((g7.alloc o).alloc o2).cell; have e_g7 := fun o => (g7.alloc o).free
    go_wp2_with fail
    refine (FT.out _ (H.out.below B)).mono ?_
    rintro e wa2 ⟨rfl, b⟩
    try clear c_g1 f_g1 a_g1 d_g1 e_g1
    replace g1 := g1.below b; have c_g1 := g1.cell; have f_g1 := g1.free; have a_g1 := fun o => (g1.alloc o).cell; have d_g1 := fun o o2 => ((g1.alloc o).alloc o2).cell; have e_g1 := fun o => (g1.alloc o).free; try clear c_g2 f_g2 a_g2 d_g2 e_g2
    replace g2 := g2.below b; have c_g2 := g2.cell; have f_g2 := g2.free; have a_g2 := fun o => (g2.alloc o).cell; have d_g2 := fun o o2 => ((g2.alloc o).alloc o2).cell; have e_g2 := fun o => (g2.alloc o).free; try clear c_g3 f_g3 a_g3 d_g3 e_g3
    replace g3 := g3.below b; have c_g3 := g3.cell; have f_g3 := g3.free; have a_g3 := fun o => (g3.alloc o).cell; have d_g3 := fun o o2 => ((g3.alloc o).alloc o2).cell; have e_g3 := fun o => (g3.alloc o).free; try clear c_g7 f_g7 a_g7 d_g7 e_g7
    replace g7 := g7.below b; have c_g7 := g7.cell; have f_g7 := g7.free; have a_g7 := fun o => (g7.alloc o).cell; have d_g7 := fun o o2 => ((g7.alloc o).alloc o2).cell; have e_g7 := fun o => (g7.alloc o).free; replace B := B.trans (b.mono B.size); clear b
    go_upto_region 2 with (fail)
    refine wp_gen (fun Wv => Bx Wv (wa2.heap.size) (26) (#[.slice none 0 0, .slice none 0 0, .slice none 0 0]) ∧ Below wa2.heap.size wa2 Wv) ⟨((Bx.at_ (by simp))), ((Below.refl _ wa2).alloc (by simp <;> omega) _)⟩ ?_
    rintro wa3 ⟨g4, b⟩
    try clear c_g1 f_g1 a_g1 d_g1 e_g1
    replace g1 := g1.below b; have c_g1 := g1.cell; have f_g1 := g1.free; have a_g1 := fun o => (g1.alloc o).cell; have d_g1 := fun o o2 => ((g1.alloc o).alloc o2).cell; have e_g1 := fun o => (g1.alloc o).free; try clear c_g2 f_g2 a_g2 d_g2 e_g2
    replace g2 := g2.below b; have c_g2 := g2.cell; have f_g2 := g2.free; have a_g2 := fun o => (g2.alloc o).cell; have d_g2 := fun o o2 => ((g2.alloc o).alloc o2).cell; have e_g2 := fun o => (g2.alloc o).free; try clear c_g3 f_g3 a_g3 d_g3 e_g3
    replace g3 := g3.below b; have c_g3 := g3.cell; have f_g3 := g3.free; have a_g3 := fun o => (g3.alloc o).cell; have d_g3 := fun o o2 => ((g3.alloc o).alloc o2).cell; have e_g3 := fun o => (g3.alloc o).free; try clear c_g7 f_g7 a_g7 d_g7 e_g7
    replace g7 := g7.below b; have c_g7 := g7.cell; have f_g7 := g7.free; have a_g7 := fun o => (g7.alloc o).cell; have d_g7 := fun o o2 => ((g7.alloc o).alloc o2).cell; have e_g7 := fun o => (g7.alloc o).free; replace B := B.trans (b.mono B.size); clear b
    have c_g4 := g4.cell; have f_g4 := g4.free; have a_g4 := fun o => (g4.alloc o).cell; have d_g4 := fun o o2 => ((g4.alloc o).alloc o2).cell; have e_g4 := fun o => (g4.alloc o).free
    go_wp2
    refine bodyPost_ret (v := .tuple #[.agg #[.slice none 0 0, .slice none 0 0, .slice none 0 0], .agg #[.int .i64 0, .int .i64 0], .int .i64 r]) (by simp [results, Try.results17, go_sem, c_g3, f_g3, c_g7, f_g7]) rfl ?_
    refine ⟨_, _, _, rfl, Mod.nil _, ?_⟩
    (repeat (first | refine Below.setCell ?_ (by first | exact Nat.le_refl _ | (simp <;> omega)) _ | refine Below.alloc ?_ (by first | exact B.size | (have := B.size; simp <;> omega)) _)); exact B
end Go.Proofs.Ytgjpohhafmkhcaa
namespace Go.Proofs.Ytgjpohhafmkhcaa
open Go.RowKit L02 L13 L18 L20
end Go.Proofs.Ytgjpohhafmkhcaa
namespace Go.Proofs.Ytgjpohhafmkhcaa
open Go.RowKit L02 L13 L18 L20
end Go.Proofs.Ytgjpohhafmkhcaa
namespace Go.Proofs.Ytgjpohhafmkhcaa
open Go.RowKit L02 L13 L18 L20
end Go.Proofs.Ytgjpohhafmkhcaa
namespace Go.Proofs.Ytgjpohhafmkhcaa
open Go.RowKit L02 L13 L18 L20
end Go.Proofs.Ytgjpohhafmkhcaa
namespace Go.Proofs.Ytgjpohhafmkhcaa
open Go.RowKit L02 L13 L18 L20
end Go.Proofs.Ytgjpohhafmkhcaa
namespace Go.Proofs.Ytgjpohhafmkhcaa
open Go.RowKit L02 L13 L18 L20
theorem Mod.forms {w : World} {tv ov sv : Value} {m : Mo} (h : Mod w tv ov sv m) : (∃ A n c, tv = .slice A n c) ∧ (∃ A n c, ov = .slice A n c) ∧ ∃ A n c, sv = .slice A n c := by
  obtain ⟨⟨_, _, ⟨A, c, e, _⟩, _⟩, ⟨_, _, ⟨A', c', e', _⟩, _⟩, ⟨A'', c'', e'', _⟩⟩ := h
  exact ⟨⟨A, _, c, e⟩, ⟨A', _, c', e'⟩, ⟨A'', _, c'', e''⟩⟩
end Go.Proofs.Ytgjpohhafmkhcaa
namespace Go.Proofs.Ytgjpohhafmkhcaa.L20
open L02 L13 L18
def dropM (m : Mo) (sl g : Int) : Mo := if asked m sl g = 0 then ⟨m.types, m.objs, m.slots.set sl.toNat ⟨g, false, 0⟩⟩ else .nil
def allE (m : Mo) (t : Int) : Int := if chk m = 0 then (if 0 ≤ t ∧ t < m.types.length then (if next m.slots = none then 23 else if m.objs.length = 960 then 4 else 0) else 2) else chk m
def newO (m : Mo) (t : Int) : Ob := ⟨t, List.replicate (m.types.getD t.toNat []).length 0⟩
def allM (m : Mo) (t : Int) : Mo := if allE m t = 0 then ⟨m.types, m.objs ++ [newO m t], givS m m.objs.length ((next m.slots).getD 0)⟩ else .nil
def allS (m : Mo) (t : Int) : Int := if allE m t = 0 then ((next m.slots).getD 0 : Nat) else 0
def allG (m : Mo) (t : Int) : Int := if allE m t = 0 then (m.slots.getD ((next m.slots).getD 0) .none).gen + 1 else 0
/-- a reference to object n -/
def isRef (m : Mo) (o : Ob) (k : Nat) (n : Nat) : Prop := ((ty m.types o).getD k 0).toNat = 3 ∧ (o.fs.getD k 0).toNat = n + 1
instance (m : Mo) (o : Ob) (k n : Nat) : Decidable (isRef m o k n) := inferInstanceAs (Decidable (_ ∧ _))
/-- another slot, or a field of another object, refers to object n -/
def Busy (m : Mo) (sl : Int) (n : Nat) : Prop := (∃ i, i < m.slots.length ∧ (i : Int) ≠ sl ∧ (m.slots.getD i .none).used = true ∧ (m.slots.getD i .none).at_ = n) ∨ ∃ i, i < m.objs.length ∧ i ≠ n ∧ ∃ k, k < (ob m i).fs.length ∧ isRef m (ob m i) k n
instance (m : Mo) (sl : Int) (n : Nat) : Decidable (Busy m sl n) := inferInstanceAs (Decidable ((∃ i, i < m.slots.length ∧ (i : Int) ≠ sl ∧ (m.slots.getD i .none).used = true ∧ (m.slots.getD i .none).at_ = n) ∨ ∃ i, i < m.objs.length ∧ i ≠ n ∧ ∃ k, k < (ob m i).fs.length ∧ isRef m (ob m i) k n))
def freeE (m : Mo) (sl g : Int) : Int := if asked m sl g = 0 then (if Busy m sl (own m sl) then 45 else 0) else asked m sl g
/-- a number behind object n, one lower -/
def lowA (n : Nat) (a : Int) : Int := if (n : Int) < a then a - 1 else a
def lowV (n : Nat) (k : UInt8) (v : UInt64) : UInt64 := if k.toNat = 3 ∧ n + 1 < v.toNat then v - 1 else v
def lowO (m : Mo) (n : Nat) (o : Ob) : Ob := ⟨o.ty, (List.range o.fs.length).map fun i => lowV n ((ty m.types o).getD i 0) (o.fs.getD i 0)⟩
def lowS (n : Nat) (s : Sl) : Sl := if s.used = true then ⟨s.gen, true, lowA n s.at_⟩ else s
def freeM (m : Mo) (sl g : Int) : Mo := if freeE m sl g = 0 then ⟨m.types, (m.objs.map (lowO m (own m sl))).eraseIdx (own m sl), ((m.slots.set sl.toNat ⟨g, false, 0⟩).map (lowS (own m sl)))⟩ else .nil
end Go.Proofs.Ytgjpohhafmkhcaa.L20
namespace Go.Proofs.Ytgjpohhafmkhcaa.L20
open L02 L13 L18
theorem zeros_get (n i : Nat) : (List.replicate n (0 : UInt64)).getD i 0 = 0 := by
  rw [List.getD_eq_getElem?_getD, List.getElem?_replicate]; split <;> rfl
/-- what is known of an object that was allocated -/
structure Alld (m : Mo) (t : Int) (k : Nat) (g0 : Int) : Prop where
  hc : chk m = 0
  ht : 0 ≤ t ∧ t < m.types.length
  hn : m.objs.length < 960
  hk : k < 16
  hs : m.slots[k]? = some ⟨g0, false, 0⟩
  hg : 0 ≤ g0 ∧ g0 < 2147483647
  hM : allM m t = ⟨m.types, m.objs ++ [newO m t], m.slots.set k ⟨g0 + 1, true, m.objs.length⟩⟩
  hS : allS m t = k
  hG : allG m t = g0 + 1
theorem Alld.of {m : Mo} {t : Int} (h : allE m t = 0) : ∃ k g0, Alld m t k g0 := by
  have h' := h
  unfold allE at h
  split at h
  · rename_i hc
    obtain ⟨h8, h960, h16, hty, hobs, hsl⟩ := chk_ok hc
    split at h
    · rename_i ht
      split at h
      · omega
      · rename_i hnx
        split at h
        · omega
        · rename_i hl
          obtain ⟨k, hk⟩ := Option.ne_none_iff_exists'.1 hnx
          obtain ⟨_, ⟨s, hs, hu, hg1⟩, _⟩ := nextFrom_some hk
          rw [Nat.sub_zero] at hs
          have hkl : k < 16 := by have := (List.getElem?_eq_some_iff.1 hs).1; omega
          have hsk := hsl s (List.mem_of_getElem? hs)
          obtain ⟨g0, u, a⟩ := s
          dsimp only at hu hg1
          subst hu
          obtain rfl : a = 0 := hsk.2.1 rfl
          have hgd : m.slots.getD k .none = ⟨g0, false, 0⟩ := by rw [List.getD_eq_getElem?_getD, hs]; rfl
          have hg2 := hsk.1
          dsimp only at hg2
          refine ⟨k, g0, hc, ht, by omega, hkl, hs, by omega, ?_, ?_, ?_⟩
          · rw [allM, if_pos h', hk, Option.getD_some, givS, hgd]
          · rw [allS, if_pos h', hk, Option.getD_some]
          · rw [allG, if_pos h', hk, Option.getD_some, hgd]
    · omega
  · omega
section
variable {m : Mo} {t : Int} {k : Nat} {g0 : Int} (h : Alld m t k g0)
include h
/-- the new model -/
theorem Alld.slot : (m.slots.set k ⟨g0 + 1, true, m.objs.length⟩)[k]? = some ⟨g0 + 1, true, m.objs.length⟩ := by
  have h1 := (List.getElem?_eq_some_iff.1 h.hs).1
  rw [List.getElem?_set_self h1]
theorem Alld.ok : chk (allM m t) = 0 := by
  obtain ⟨h8, h960, h16, hty, hobs, hsl⟩ := chk_ok h.hc
  have hn := h.hn
  rw [h.hM]
  refine chk_zero (by simp; omega) ⟨by simpa using h16, hty, fun o ho => ?_, fun s hs => ?_⟩
  · rcases List.mem_append.1 ho with ho | ho
    · obtain ⟨a1, a2, a3⟩ := hobs o ho
      refine ⟨a1, a2, fun i hi => ?_⟩
      obtain ⟨b1, b2⟩ := a3 i hi
      exact ⟨b1, fun e => Nat.le_trans (b2 e) (by simp)⟩
    · rw [List.mem_singleton] at ho
      subst ho
      have ht := h.ht
      refine ⟨ht, by simp [newO, ty], fun i hi => ?_⟩
      simp only [newO, zeros_get]
      exact ⟨fun _ => by decide, fun _ => by simp⟩
  · rcases List.mem_or_eq_of_mem_set hs with hs | hs
    · obtain ⟨a1, a2, a3⟩ := hsl s hs
      exact ⟨a1, a2, fun e => by have := a3 e; simp; omega⟩
    · subst hs
      have := h.hg
      refine ⟨?_, ?_, ?_⟩
      · dsimp only; omega
      · intro e; cases e
      · intro _; simp; omega
theorem Alld.len : (allM m t).objs.length = m.objs.length + 1 := by rw [h.hM]; simp
theorem Alld.right : rightErr (allM m t).slots k (g0 + 1) = 0 := by
  have hk := h.hk
  have hs := h.slot
  have h16 := (chk_ok h.hc).2.2.1
  have hgd : (m.slots.set k ⟨g0 + 1, true, m.objs.length⟩).getD k .none = ⟨g0 + 1, true, m.objs.length⟩ := by rw [List.getD_eq_getElem?_getD, hs]; rfl
  rw [h.hM, rightErr, if_pos (by simp; omega), if_pos]
  rw [Int.toNat_natCast, hgd]
  exact ⟨rfl, rfl⟩
theorem Alld.own : own (allM m t) k = m.objs.length := by
  rw [L20.own, Int.toNat_natCast, h.hM, List.getD_eq_getElem?_getD, h.slot]; simp
theorem Alld.idle : ¬ Busy (allM m t) k m.objs.length := by
  obtain ⟨h8, h960, h16, hty, hobs, hsl⟩ := chk_ok h.hc
  rw [h.hM]
  rintro (⟨i, hi, hne, hu, ha⟩ | ⟨i, hi, hne, j, hj, hr⟩)
  · have hik : k ≠ i := fun e => hne (by rw [e])
    have hi' : i < m.slots.length := by simpa using hi
    have e : (m.slots.set k ⟨g0 + 1, true, m.objs.length⟩).getD i .none = m.slots[i] := by
      rw [List.getD_eq_getElem?_getD, List.getElem?_set_ne hik, List.getElem?_eq_getElem hi']; rfl
    dsimp only at hu ha
    rw [e] at hu ha
    have := (hsl _ (List.getElem_mem hi')).2.2 hu
    omega
  · have hi' : i < m.objs.length := by simp at hi; omega
    have e : ob ⟨m.types, m.objs ++ [newO m t], m.slots.set k ⟨g0 + 1, true, m.objs.length⟩⟩ i = m.objs[i] := by
      simp [ob, List.getD_eq_getElem?_getD, List.getElem?_append_left hi', List.getElem?_eq_getElem hi']
    rw [e] at hj hr
    have := ((hobs _ (List.getElem_mem hi')).2.2 j hj).2 hr.1
    have h2 := hr.2
    omega
theorem Alld.asked : asked (allM m t) k (g0 + 1) = 0 := by rw [L20.asked, if_pos h.ok, h.right]
theorem Alld.free : freeE (allM m t) k (g0 + 1) = 0 := by rw [freeE, if_pos h.asked, h.own, if_neg h.idle]
theorem Alld.freed : freeM (allM m t) k (g0 + 1) = ⟨m.types, m.objs, m.slots.set k ⟨g0 + 1, false, 0⟩⟩ := by
  obtain ⟨h8, h960, h16, hty, hobs, hsl⟩ := chk_ok h.hc
  have hn := h.hn
  rw [freeM, if_pos h.free, h.own, h.hM, Int.toNat_natCast]
  dsimp only
  congr 1
  · rw [List.map_append, List.eraseIdx_append_of_length_le (by simp)]
    simp only [List.length_map, Nat.sub_self, List.map_cons, List.map_nil, List.eraseIdx_cons_zero, List.append_nil]
    conv => rhs; rw [← List.map_id m.objs]
    refine List.map_congr_left fun o ho => ?_
    obtain ⟨a1, a2, a3⟩ := hobs o ho
    rw [lowO, id]
    obtain ⟨oty, ofs⟩ := o
    congr 1
    apply List.ext_getElem?
    intro i
    rcases Nat.lt_or_ge i ofs.length with hi | hi
    · have h3 := (a3 i hi).2
      rw [List.getElem?_map, List.getElem?_range hi, Option.map_some, List.getElem?_eq_getElem hi]
      congr 1
      have hg : ofs.getD i 0 = ofs[i] := by rw [List.getD_eq_getElem?_getD, List.getElem?_eq_getElem hi]; rfl
      rw [lowV, if_neg, hg]
      rintro ⟨c1, c2⟩
      have := h3 c1
      omega
    · rw [List.getElem?_eq_none (by simpa using hi), List.getElem?_eq_none hi]
  · rw [List.set_set]
    conv => rhs; rw [← List.map_id (m.slots.set k ⟨g0 + 1, false, 0⟩)]
    refine List.map_congr_left fun s hs => ?_
    rw [lowS, id]
    rcases List.mem_or_eq_of_mem_set hs with hs | hs
    · split
      · rename_i hu
        have := (hsl s hs).2.2 hu
        obtain ⟨sg, su, sa⟩ := s
        dsimp only at hu this ⊢
        subst hu
        rw [lowA, if_neg (by omega)]
      · rfl
    · subst hs; rfl
theorem Alld.back : (m.slots.set k ⟨g0 + 1, false, 0⟩).set k ⟨g0, false, 0⟩ = m.slots := by
  rw [List.set_set]
  apply List.ext_getElem?
  intro i
  by_cases hi : k = i
  · subst hi
    rw [List.getElem?_set_self (List.getElem?_eq_some_iff.1 h.hs).1, h.hs]
  · rw [List.getElem?_set_ne hi]
end
end Go.Proofs.Ytgjpohhafmkhcaa.L20
namespace Go.Proofs.Ytgjpohhafmkhcaa.L20
open L02 L13 L18
theorem ob_putF {m : Mo} {n i : Nat} {v : UInt64} (hn : n < m.objs.length) : ob (putF m n i v) n = ⟨(ob m n).ty, (ob m n).fs.set i v⟩ := by
  rw [ob, putF, List.getD_eq_getElem?_getD, List.getElem?_set_self hn]; rfl
theorem len_putF {m : Mo} {n i : Nat} {v : UInt64} : (putF m n i v).objs.length = m.objs.length := by simp [putF]
theorem putF_putF {m : Mo} {n i : Nat} {a b : UInt64} (hn : n < m.objs.length) : putF (putF m n i a) n i b = putF m n i b := by
  rw [putF, ob_putF hn, putF, putF]
  dsimp only
  rw [List.set_set, List.set_set]
theorem putF_self {m : Mo} {n i : Nat} (hn : n < m.objs.length) (hi : i < (ob m n).fs.length) : putF m n i ((ob m n).fs.getD i 0) = m := by
  have e : (ob m n).fs.set i ((ob m n).fs.getD i 0) = (ob m n).fs := by
    apply List.ext_getElem?
    intro j
    by_cases hj : i = j
    · subst hj; rw [List.getElem?_set_self hi, List.getD_eq_getElem?_getD, List.getElem?_eq_getElem hi]; rfl
    · rw [List.getElem?_set_ne hj]
  rw [putF, e]
  have e2 : m.objs.set n ⟨(ob m n).ty, (ob m n).fs⟩ = m.objs := by
    apply List.ext_getElem?
    intro j
    by_cases hj : n = j
    · subst hj; rw [List.getElem?_set_self hn, ob, List.getD_eq_getElem?_getD, List.getElem?_eq_getElem hn]; rfl
    · rw [List.getElem?_set_ne hj]
  rw [e2]
theorem chk_putF {m : Mo} {n i : Nat} {v : UInt64} (hc : chk m = 0) (hn : n < m.objs.length) (hv : i < (ob m n).fs.length → FdOk m.objs.length ((ty m.types (ob m n)).getD i 0) v) : chk (putF m n i v) = 0 := by
  obtain ⟨h8, h960, h16, hty, hobs, hsl⟩ := chk_ok hc
  refine chk_zero (by rw [len_putF]; simp only [putF]; omega) ⟨h16, hty, fun o ho => ?_, fun s hs => ?_⟩
  · rw [len_putF]
    show ObOk m.types m.objs.length o
    rcases List.mem_or_eq_of_mem_set ho with ho | ho
    · exact hobs o ho
    · have hob : ob m n ∈ m.objs := by rw [ob, List.getD_eq_getElem?_getD, List.getElem?_eq_getElem hn]; exact List.getElem_mem hn
      obtain ⟨a1, a2, a3⟩ := hobs _ hob
      subst ho
      refine ⟨a1, by rw [List.length_set]; exact a2, fun j hj => ?_⟩
      have hj' : j < (ob m n).fs.length := by simpa using hj
      show FdOk m.objs.length ((ty m.types (ob m n)).getD j 0) (((ob m n).fs.set i v).getD j 0)
      by_cases hij : i = j
      · subst hij
        rw [show ((ob m n).fs.set i v).getD i 0 = v by rw [List.getD_eq_getElem?_getD, List.getElem?_set_self hj']; rfl]
        exact hv hj'
      · rw [show ((ob m n).fs.set i v).getD j 0 = (ob m n).fs.getD j 0 by rw [List.getD_eq_getElem?_getD, List.getElem?_set_ne hij, ← List.getD_eq_getElem?_getD]]
        exact a3 j hj'
  · rw [len_putF]; exact hsl s hs
theorem asked_putF {m : Mo} {n i : Nat} {v : UInt64} {sl g : Int} (hc : chk m = 0) (hp : chk (putF m n i v) = 0) : asked (putF m n i v) sl g = asked m sl g := by
  rw [asked, asked, if_pos hc, if_pos hp]; rfl
theorem own_putF {m : Mo} {n i : Nat} {v : UInt64} {sl : Int} : own (putF m n i v) sl = own m sl := rfl
theorem kinds_putF {m : Mo} {n i : Nat} {v : UInt64} {sl : Int} (hn : n < m.objs.length) (ho : own m sl = n) : kinds (putF m n i v) sl = kinds m sl := by
  rw [kinds, kinds, own_putF, ho, ob_putF hn]; rfl
end Go.Proofs.Ytgjpohhafmkhcaa.L20
