/- Contracts of the functions that the law 'ModelEdits' reaches, part 3. No condition. -/
import Derived.Test.YtgjpohhafmkhcaaMMEsb
set_option linter.unusedVariables false
set_option linter.unusedSimpArgs false
namespace Go.Proofs.Ytgjpohhafmkhcaa
open Go.RowKit L02 L13 L18 L20
/-- the worlds of a round of Twin that copies one type -/
def wtT (w : World) (p : Nat) (y v : Value) (W2 W4 : World) : Nat → World
  | 0 => w.drew
  | 1 => w.drew.alloc (.cells #[] 5)
  | 2 => W2
  | 3 => W2.alloc (.cells #[y] 74)
  | 4 => W4
  | _ => W4.setCell ⟨p, 0, none⟩ v
/-- .. one object -/
def wtO (w : World) (p : Nat) (ty : Int) (y v : Value) (W2 W4 : World) : Nat → World
  | 0 => w.drew
  | 1 => w.drew.alloc (.cells #[] 29)
  | 2 => W2
  | 3 => W2
  | 4 => W2.alloc (.cells #[i64 ty, y] 72)
  | 5 => W4
  | _ => W4.setCell ⟨p, 1, none⟩ v
set_option maxRecDepth 100000 in
set_option maxHeartbeats 4000000 in
theorem Twin_any (tv ov sv : Value) (m : Mo) (hsm : Small m) (w : World) (h : Mod w tv ov sv m) :
    Calls Try.prog 10 #[.agg #[tv, ov, sv]] w fun e w' => ∃ tv' ov' sv', e = .returned (.agg #[tv', ov', sv']) ∧ OwnM w' w.heap.size 67 tv' ov' sv' m ∧ Below w.heap.size w w' := by
  have B : Below w.heap.size w w := Below.refl _ _
  have lt := h.t.len; have lo := h.o.len
  obtain ⟨NT, hNT⟩ : ∃ N, N = m.types.length := ⟨_, rfl⟩
  obtain ⟨NO, hNO⟩ : ∃ N, N = m.objs.length := ⟨_, rfl⟩
  rw [← hNT] at lt; rw [← hNO] at lo
  obtain ⟨s1, s2, s3, s4, s5⟩ := hsm
  have hNT20 : NT ≤ 20 := by omega
  have hNO962 : NO ≤ 962 := by omega
  have H := Lib.hid h; have HNT := Lib.hid hNT; have HNO := Lib.hid hNO; have S3 := Lib.hid s3; have S4 := Lib.hid s4; have S5 := Lib.hid s5
  clear h hNT hNO s4 s5 s1 s2 s3
  go_enter Try.func10, Try.ntmps10
  go_upto_region 2 with (fail)
  refine wp_gen (fun Wv => Bx Wv (w.heap.size) (26) (#[tv, ov, sv]) ∧ Bx Wv (w.heap.size + 1) (26) (#[.slice none 0 0, .slice none 0 0, .slice none 0 0]) ∧ Bx Wv (w.heap.size + 1 + 1) (26) (#[.slice none 0 0, .slice none 0 0, .slice none 0 0]) ∧ Below w.heap.size w Wv) ⟨((((Bx.at_ (by simp)).alloc _).alloc _)), (((Bx.at_ (by simp)).alloc _)), ((Bx.at_ (by simp))), ((((Below.refl _ w).alloc (by simp <;> omega) _).alloc (by simp <;> omega) _).alloc (by simp <;> omega) _)⟩ ?_
  rintro wa1 ⟨g1, g2, g3, b⟩
  replace B := B.trans (b.mono B.size); clear b
  have c_g1 := g1.cell; have f_g1 := g1.free; have a_g1 := fun o => (g1.alloc o).cell; have d_g1 := fun o o2 => ((g1.alloc o).alloc o2).cell; have e_g1 := fun o => (g1.alloc o).free
  have c_g2 := g2.cell; have f_g2 := g2.free; have a_g2 := fun o => (g2.alloc o).cell; have d_g2 := fun o o2 => ((g2.alloc o).alloc o2).cell; have e_g2 := fun o => (g2.alloc o).free
  have c_g3 := g3.cell; have f_g3 := g3.free; have a_g3 := fun o => (g3.alloc o).cell; have d_g3 := fun o o2 => ((g3.alloc o).alloc o2).cell; have e_g3 := fun o => (g3.alloc o).free
  generalize hpp : w.heap.size + 1 + 1 = p at *
  have hB0 : w.heap.size + 2 = p := by omega
  clear hpp
  have HB := Lib.hid B; have HG := Lib.hid (And.intro g1 (And.intro g2 g3))
  clear B g1 g2 g3 c_g1 c_g2 f_g1 f_g2 a_g1 a_g2 d_g1 d_g2 e_g1 e_g2 c_g3 f_g3 a_g3 d_g3 e_g3
  have hwa := HG.out.1.cell
  go_wp2
  clear hwa
  go_loopg [4] NT (fun g i wr => ∃ j : Nat, j ≤ NT ∧ g = NT - j ∧ i = .int .i64 j ∧ Hid (∃ xt, OwnT wr w.heap.size xt (m.types.take j) ∧ Bx wr w.heap.size 26 #[tv, ov, sv] ∧ Bx wr (w.heap.size + 1) 26 #[.slice none 0 0, .slice none 0 0, .slice none 0 0] ∧ Bx wr p 26 #[xt, .slice none 0 0, .slice none 0 0] ∧ Below w.heap.size w wr))
  case atStart => exact ⟨0, by omega, by omega, rfl, Lib.hid ⟨_, OwnT.nil _ _, HG.out.1, HG.out.2.1, HG.out.2.2, HB.out⟩⟩
  case round =>
    clear HG HB
    obtain ⟨j, hj, rfl, rfl, hh⟩ := hrel
    by_cases hlt : j < NT
    · obtain ⟨xt, oT, q1, q2, q3, B⟩ := hh.out
      obtain ⟨ad, x, t, ix, m0, ht, hby⟩ := H.out.t.at_ (k := j) (by have := HNT.out; omega)
      have htl : t.length ≤ 20 := S4.out t (List.mem_of_getElem? ht.out)
      obtain ⟨vs, z1, z2, z4⟩ := oT
      have hB := B.size
      have htk : (m.types.take j).length = j := by rw [List.length_take]; have := HNT.out; omega
      have c1 := q1.cell
      go_upto_region 5 with (fail)
      have HT := Lib.hid ht
      clear hh
      have b1 : Below wr.heap.size wr (wr.drew.alloc (.cells #[] 5)) := ((Below.refl _ wr).drew).alloc (Nat.le_refl _) _
      have r1 := run_lit0 (P := Try.prog) (t := 74) (e := 5) wr.drew Try.underlying74 (by kernel_rfl)
      replace r1 : (Instr.buildSlice 74 0 #[]).run Try.prog wr.drew = .ok (.slice (some ⟨wr.heap.size, 0, none⟩) 0 0) (wr.drew.alloc (.cells #[] 5)) := r1
      obtain ⟨y, W2, r2, o2, gr2⟩ := run_append_rd (P := Try.prog) (w := wr.drew.alloc (.cells #[] 5)) (ty := 74) Try.underlying74 info_u8 rfl (by omega) (lit0_own (B := wr.heap.size) (w := wr.drew) (e := 5) (sz := 1) (Nat.le_refl _)) (hby.out.below (B.trans (b1.mono hB))) (one_u8s _) (by omega) (by omega) b1.size
      replace r2 : (Builtin.append_ #[74, 74] 74 #[.slice (some ⟨wr.heap.size, 0, none⟩) 0 0, x]).run Try.prog (wr.drew.alloc (.cells #[] 5)) = .ok y W2 := r2
      have b2 : Below wr.heap.size wr W2 := b1.grown gr2 b1.size (fun k hk => (lit0_own (B := wr.heap.size) (w := wr.drew) (e := 5) (sz := 1) (Nat.le_refl _) |>.lt k hk).1)
      have oy : OwnB W2 wr.heap.size 5 y t := OwnB.of o2 (by simp)
      have hz := b2.size
      obtain ⟨v, W4, r3, o3, gr3⟩ := run_append_rd (P := Try.prog) (w := W2.alloc (.cells #[y] 74)) (ty := 22) (B := w.heap.size) Try.underlying22 info_bytes rfl (by omega) (own_below z2 (b2.alloc hz _)) lit_rd (by intro u hu; simp at hu; subst hu; exact (OwnB.rd oy).oneCell) (by omega) (by omega) (by simp; omega)
      rw [htk] at o3
      -- (slots: none yet)
      have oS0 : OwnS wr w.heap.size 67 (.slice none 0 0) [] := OwnS.nil _ _ _
      have MM := Lib.hid (copyT_mem (t := t) (a := w.heap.size) (b := w.heap.size + 1) (p := p) z1 z2 z4 oy b2 o3 gr3 q1 q2 q3 oS0 B hB (by omega) (by omega) (by omega) (Nat.le_refl _))
      have b3 := b2.alloc hz (.cells #[y] 74)
      have q14 : Bx W4 w.heap.size 26 #[tv, ov, sv] := Bx.grown (q1.below b3) gr3 (own_not_bx (own_below z2 b3) (q1.below b3) (by decide))
      have B4 : Below w.heap.size w W4 := (B.trans (b3.mono hB)).grown gr3 (Nat.le_trans hB b3.size) (fun k hk => ((own_below z2 b3).lt k hk).1)
      obtain ⟨yyA, yyn, yyc, rfl⟩ : ∃ A n c, y = .slice A n c := by obtain ⟨A, c, e⟩ := own_form' oy; exact ⟨A, _, c, e⟩
      obtain ⟨vA, vn, vc, rfl⟩ : ∃ A n c, v = .slice A n c := by obtain ⟨A, c, e⟩ := own_form' o3; exact ⟨A, _, c, e⟩
      have AL : ∀ d, d ≤ 5 → Below w.heap.size w (wtT wr p (.slice yyA yyn yyc) (.slice vA vn vc) W2 W4 d) ∧ Bx (wtT wr p (.slice yyA yyn yyc) (.slice vA vn vc) W2 W4 d) w.heap.size 26 #[tv, ov, sv] := by
        intro d hd
        rcases d with _ | _ | _ | _ | _ | d
        · exact ⟨B.drew, q1⟩
        · exact ⟨B.trans (b1.mono hB), q1.below b1⟩
        · exact ⟨B.trans (b2.mono hB), q1.below b2⟩
        · exact ⟨B.trans (b3.mono hB), q1.below b3⟩
        · exact ⟨B4, q14⟩
        · exact ⟨MM.out.2.2.2.2.2.2, MM.out.2.2.1⟩
      have ca := fun x : FXN (FL [2, 8, 9, 10, 12] (wtT wr p (.slice yyA yyn yyc) (.slice vA vn vc) W2 W4) 1 3) => (FL.all (ks := [2, 8, 9, 10, 12]) (Ws := wtT wr p (.slice yyA yyn yyc) (.slice vA vn vc) W2 W4) (p := fun W => Below w.heap.size w W ∧ Bx W w.heap.size 26 #[tv, ov, sv]) AL x).2.cell
      have cb := fun y : FXN (FL [2, 8, 9, 10, 12] (wtT wr p (.slice yyA yyn yyc) (.slice vA vn vc) W2 W4) 1 3) => cell_later (FL.all (ks := [2, 8, 9, 10, 12]) (Ws := wtT wr p (.slice yyA yyn yyc) (.slice vA vn vc) W2 W4) (p := fun W => Below w.heap.size w W ∧ Bx W w.heap.size 26 #[tv, ov, sv]) AL y).1 m0
      have p0 := q3.cell 0; have p1 := (q3.below b1).cell 0; have p2 := (q3.below b2).cell 0; have p3 := (q3.below b3).cell 0
      haveI : Nonempty (FXN (FL [2, 8, 9, 10, 12] (wtT wr p (.slice yyA yyn yyc) (.slice vA vn vc) W2 W4) 1 3)) := ⟨⟨_, _, FL.start⟩⟩
      clear c1
      refine wp_region_N (FL [2, 8, 9, 10, 12] (wtT wr p (.slice yyA yyn yyc) (.slice vA vn vc) W2 W4) 1 3) [1, 2, 8, 9, 10, 12] FL.dep (by kernel_rfl) (by kernel_rfl) (by kernel_rfl) FL.start ?_
      refine wpN_read FL.dep rfl (by decide) ?_; go_big_quiet_step (fail); refine wpQuiet_nil ?_
      refine wpN_step FL.dep rfl (by rfl) (v := xt) [] rfl (fun f W hF h0 _ => ?_) ?_
      · obtain ⟨⟨d, hd, hd2, rfl⟩, hF'⟩ := FL.read (by decide) hF h0
        refine ⟨_, ?_, hF'⟩
        have hc : (wtT wr p (.slice yyA yyn yyc) (.slice vA vn vc) W2 W4 d).cell? ⟨p, 0, none⟩ = some xt := by
          rcases d with _ | _ | _ | _ | d
          · exact p0
          · exact p1
          · exact p2
          · exact p3
          · omega
        simp [execOp, go_sem, hc]
      simp only [Act.put, List.setIfInBounds_toArray, List.set_cons_zero, List.set_cons_succ]
      refine wpN_step FL.dep rfl (by rfl) (v := .slice (some ⟨wr.heap.size, 0, none⟩) 0 0) [] (by kernel_rfl) (fun f W hF h0 h1 => ?_) ?_
      · obtain ⟨rfl, h2⟩ := FL.step (i := 0) rfl (by decide) hF h0 (by intro p hp; omega) (by omega)
        exact ⟨_, by simp [execOp, wtT, r1], h2⟩
      simp only [Act.put, List.setIfInBounds_toArray, List.set_cons_zero, List.set_cons_succ]
      iterate 5 (refine wpN_read FL.dep rfl (by decide) ?_; go_big_quiet_step (fail); refine wpQuiet_nil ?_)
      refine wpN_step FL.dep rfl (by rfl) (v := .slice yyA yyn yyc) [2] (by kernel_rfl) (fun f W hF h0 h1 => ?_) ?_
      · obtain ⟨rfl, h2⟩ := FL.step (i := 1) rfl (by decide) hF h0 (FL.prev (p := 0) (q := 2) rfl (h1 2 (by simp))) (by omega)
        exact ⟨_, by simp [execOp, resolve, invoke, builtin, Act.eval, wtT, r2], h2⟩
      simp only [Act.put, List.setIfInBounds_toArray, List.set_cons_zero, List.set_cons_succ]
      refine wpN_step FL.dep rfl (by rfl) (v := .slice (some ⟨W2.heap.size, 0, none⟩) 1 1) [8] (by kernel_rfl) (fun f W hF h0 h1 => ?_) ?_
      · obtain ⟨rfl, h2⟩ := FL.step (i := 2) rfl (by decide) hF h0 (FL.prev (p := 1) (q := 8) rfl (h1 8 (by simp))) (by omega)
        exact ⟨_, by simp [execOp, go_sem, wtT], h2⟩
      simp only [Act.put, List.setIfInBounds_toArray, List.set_cons_zero, List.set_cons_succ]
      refine wpN_step FL.dep rfl (by rfl) (v := .slice vA vn vc) [9, 1] (by kernel_rfl) (fun f W hF h0 h1 => ?_) ?_
      · obtain ⟨rfl, h2⟩ := FL.step (i := 3) rfl (by decide) hF h0 (FL.prev (p := 2) (q := 9) rfl (h1 9 (by simp))) (fun _ => h1 1 (by simp))
        exact ⟨_, by simp [execOp, resolve, invoke, builtin, Act.eval, wtT, r3], h2⟩
      simp only [Act.put, List.setIfInBounds_toArray, List.set_cons_zero, List.set_cons_succ]
      refine wpN_read FL.dep rfl (by decide) ?_; go_big_quiet_step (fail); refine wpQuiet_nil ?_
      refine wpN_storeD FL.dep rfl 22 (.tmp 24) (.tmp 23) rfl (by rfl) (p := .pointer (some ⟨p, 0, none⟩)) (u := .slice vA vn vc) (by rfl) (by rfl) [10] (by kernel_rfl) (fun f W hF h0 h1 => ?_) ?_
      · obtain ⟨rfl, h2⟩ := FL.step (i := 4) rfl (by decide) hF h0 (FL.prev (p := 3) (q := 10) rfl (h1 10 (by simp))) (by omega)
        refine ⟨_, ?_, h2⟩
        have hc := MM.out.1.1; have hf := MM.out.1.2
        simp [go_sem, wtT, hc, hf]
      show ∀ w', _ → _
      intro w' hw'
      obtain rfl := FL.done hw'
      have HM := Lib.hid (MM.out.2)
      clear this MM q1 q2 q3 oS0 B z1 z2 z4 hw' r1 r2 r3 oy b1 b2 b3 p0 p1 p2 p3 AL ca cb q14 B4 o2 o3 gr2 gr3 m0
      go_wp2
      go_roundg (NT - (j + 1))
      case measure => omega
      case rel =>
        obtain ⟨k1, k2, k3, k4, _, k6⟩ := HM.out
        refine ⟨j + 1, by omega, rfl, by go_num, Lib.hid ⟨_, ?_, k2, k3, k4, k6⟩⟩
        rwa [List.take_add_one, HT.out.out]
    · obtain rfl : j = NT := by omega
      obtain ⟨xt, oT, q1, q2, q3, B⟩ := hh.out
      rw [List.take_of_length_le (by have := HNT.out; omega)] at oT
      clear hh
      have hwa := q1.cell
      have HG := Lib.hid (And.intro q1 (And.intro q2 (And.intro q3 oT))); have HB := Lib.hid B
      clear q1 q2 q3 oT B
      go_wp2
      clear hwa
      go_loopg [5] NO (fun g i wr => ∃ k : Nat, k ≤ NO ∧ g = NO - k ∧ i = .int .i64 k ∧ Hid (∃ ot, OwnO wr w.heap.size ot (m.objs.take k) ∧ Bx wr w.heap.size 26 #[tv, ov, sv] ∧ Bx wr (w.heap.size + 1) 26 #[.slice none 0 0, .slice none 0 0, .slice none 0 0] ∧ Bx wr p 26 #[xt, ot, .slice none 0 0] ∧ OwnT wr w.heap.size xt m.types ∧ Below w.heap.size w wr))
      case atStart => exact ⟨0, by omega, by omega, rfl, Lib.hid ⟨_, OwnO.nil _ _, HG.out.1, HG.out.2.1, HG.out.2.2.1, HG.out.2.2.2, HB.out⟩⟩
      case round =>
        clear HG HB
        obtain ⟨k, hk, rfl, rfl, hh⟩ := hrel
        by_cases hltk : k < NO
        · obtain ⟨ot, oO, q1, q2, q3, oT, B⟩ := hh.out
          obtain ⟨ob, oq, x, o, ix, m0, m1, ho, hx, hob⟩ := H.out.o.at_ (k := k) (by have := HNO.out; omega)
          have hol : o.fs.length ≤ 20 := S5.out o (List.mem_of_getElem? ho.out)
          have hxx := hx.out
          have htk : (m.objs.take k).length = k := by rw [List.length_take]; have := HNO.out; omega
          obtain ⟨xA, xn, xc, rfl⟩ : ∃ A n c, x = .slice A n c := by obtain ⟨A, c, e, _⟩ := hxx; exact ⟨A, _, c, e⟩
          obtain ⟨vs, z1, z2, z4, z5⟩ := oO
          have hB := B.size
          have c1 := q1.cell
          go_upto_region 9 with (fail)
          have HT := Lib.hid ho
          clear hh hx
          have b1 : Below wr.heap.size wr (wr.drew.alloc (.cells #[] 29)) := ((Below.refl _ wr).drew).alloc (Nat.le_refl _) _
          have r1 := run_lit0 (P := Try.prog) (t := 70) (e := 29) wr.drew Try.underlying70 (by kernel_rfl)
          replace r1 : (Instr.buildSlice 70 0 #[]).run Try.prog wr.drew = .ok (.slice (some ⟨wr.heap.size, 0, none⟩) 0 0) (wr.drew.alloc (.cells #[] 29)) := r1
          obtain ⟨y, W2, r2, o2, gr2⟩ := run_append_rd (P := Try.prog) (w := wr.drew.alloc (.cells #[] 29)) (ty := 70) Try.underlying70 info_u64 rfl (by omega) (lit0_own (B := wr.heap.size) (w := wr.drew) (e := 29) (sz := 1) (Nat.le_refl _)) (hxx.below (B.trans (b1.mono hB))) (one_u64s _) (by omega) (by omega) b1.size
          replace r2 : (Builtin.append_ #[70, 70] 70 #[.slice (some ⟨wr.heap.size, 0, none⟩) 0 0, .slice xA xn xc]).run Try.prog (wr.drew.alloc (.cells #[] 29)) = .ok y W2 := r2
          have b2 : Below wr.heap.size wr W2 := b1.grown gr2 b1.size (fun k hk => (lit0_own (B := wr.heap.size) (w := wr.drew) (e := 29) (sz := 1) (Nat.le_refl _) |>.lt k hk).1)
          have oy : OwnW W2 wr.heap.size 29 y o.fs := OwnW.of o2 (by simp)
          have hz := b2.size
          obtain ⟨v, W4, r3, o3, gr3⟩ := run_append_rd (P := Try.prog) (w := W2.alloc (.cells #[i64 o.ty, y] 72)) (ty := 23) (B := w.heap.size) Try.underlying23 info_obj rfl (by omega) (own_below z2 (b2.alloc hz _)) lit_obj (one_obj (OwnW.rd oy).oneCell) (by omega) (by omega) (by simp; omega)
          rw [htk] at o3
          have oS0 : OwnS wr w.heap.size 67 (.slice none 0 0) [] := OwnS.nil _ _ _
          have hlt0 := own_not_bx z2 q1 (by decide)
          have MM := Lib.hid (copyO_mem (o := o) (a := w.heap.size) (b := w.heap.size + 1) (p := p) z1 z2 z4 z5 oy b2 o3 gr3 q1 q2 q3 oT oS0 B hB (by omega) (by omega) (by omega) q1 hlt0 (by omega))
          have b3 := b2.alloc hz (.cells #[i64 o.ty, y] 72)
          have B4 : Below w.heap.size w W4 := (B.trans (b3.mono hB)).grown gr3 (Nat.le_trans hB b3.size) (fun k hk => ((own_below z2 b3).lt k hk).1)
          obtain ⟨yyA, yyn, yyc, rfl⟩ : ∃ A n c, y = .slice A n c := by obtain ⟨A, c, e⟩ := own_form' oy; exact ⟨A, _, c, e⟩
          obtain ⟨vA, vn, vc, rfl⟩ : ∃ A n c, v = .slice A n c := by obtain ⟨A, c, e⟩ := own_form' o3; exact ⟨A, _, c, e⟩
          have AL : ∀ d, d ≤ 6 → Below w.heap.size w (wtO wr p o.ty (.slice yyA yyn yyc) (.slice vA vn vc) W2 W4 d) ∧ Bx (wtO wr p o.ty (.slice yyA yyn yyc) (.slice vA vn vc) W2 W4 d) w.heap.size 26 #[tv, ov, sv] := by
            intro d hd
            rcases d with _ | _ | _ | _ | _ | _ | d
            · exact ⟨B.drew, q1⟩
            · exact ⟨B.trans (b1.mono hB), q1.below b1⟩
            · exact ⟨B.trans (b2.mono hB), q1.below b2⟩
            · exact ⟨B.trans (b2.mono hB), q1.below b2⟩
            · exact ⟨B.trans (b3.mono hB), q1.below b3⟩
            · exact ⟨B4, MM.out.2.2.2.2.2.2.2.2.1⟩
            · exact ⟨MM.out.2.2.2.2.2.2.2.1, MM.out.2.2.1⟩
          have ca := fun x : FXN (FL [8, 15, 16, 17, 18, 20] (wtO wr p o.ty (.slice yyA yyn yyc) (.slice vA vn vc) W2 W4) 1 4) => (FL.all (ks := [8, 15, 16, 17, 18, 20]) (Ws := wtO wr p o.ty (.slice yyA yyn yyc) (.slice vA vn vc) W2 W4) (p := fun W => Below w.heap.size w W ∧ Bx W w.heap.size 26 #[tv, ov, sv]) AL x).2.cell
          have cb := fun y : FXN (FL [8, 15, 16, 17, 18, 20] (wtO wr p o.ty (.slice yyA yyn yyc) (.slice vA vn vc) W2 W4) 1 4) => cell_later (FL.all (ks := [8, 15, 16, 17, 18, 20]) (Ws := wtO wr p o.ty (.slice yyA yyn yyc) (.slice vA vn vc) W2 W4) (p := fun W => Below w.heap.size w W ∧ Bx W w.heap.size 26 #[tv, ov, sv]) AL y).1 m0
          have cc := fun y : FXN (FL [8, 15, 16, 17, 18, 20] (wtO wr p o.ty (.slice yyA yyn yyc) (.slice vA vn vc) W2 W4) 1 4) => cell_later (FL.all (ks := [8, 15, 16, 17, 18, 20]) (Ws := wtO wr p o.ty (.slice yyA yyn yyc) (.slice vA vn vc) W2 W4) (p := fun W => Below w.heap.size w W ∧ Bx W w.heap.size 26 #[tv, ov, sv]) AL y).1 m1
          have p0 := q3.cell 1; have p1 := (q3.below b1).cell 1; have p2 := (q3.below b2).cell 1; have p3 := (q3.below b3).cell 1
          haveI : Nonempty (FXN (FL [8, 15, 16, 17, 18, 20] (wtO wr p o.ty (.slice yyA yyn yyc) (.slice vA vn vc) W2 W4) 1 4)) := ⟨⟨_, _, FL.start⟩⟩
          clear c1
          refine wp_region_N (FL [8, 15, 16, 17, 18, 20] (wtO wr p o.ty (.slice yyA yyn yyc) (.slice vA vn vc) W2 W4) 1 4) [1, 8, 15, 16, 17, 18, 20] FL.dep (by kernel_rfl) (by kernel_rfl) (by kernel_rfl) FL.start ?_
          refine wpN_read FL.dep rfl (by decide) ?_; go_big_quiet_step (fail); refine wpQuiet_nil ?_
          refine wpN_step FL.dep rfl (by rfl) (v := ot) [] rfl (fun f W hF h0 _ => ?_) ?_
          · obtain ⟨⟨d, hd, hd2, rfl⟩, hF'⟩ := FL.read (by decide) hF h0
            refine ⟨_, ?_, hF'⟩
            have hc : (wtO wr p o.ty (.slice yyA yyn yyc) (.slice vA vn vc) W2 W4 d).cell? ⟨p, 1, none⟩ = some ot := by
              rcases d with _ | _ | _ | _ | _ | d
              · exact p0
              · exact p1
              · exact p2
              · exact p2
              · exact p3
              · omega
            simp [execOp, go_sem, hc]
          simp only [Act.put, List.setIfInBounds_toArray, List.set_cons_zero, List.set_cons_succ]
          iterate 6 (refine wpN_read FL.dep rfl (by decide) ?_; go_big_quiet_step (fail); refine wpQuiet_nil ?_)
          refine wpN_step FL.dep rfl (by rfl) (v := .slice (some ⟨wr.heap.size, 0, none⟩) 0 0) [] (by kernel_rfl) (fun f W hF h0 h1 => ?_) ?_
          · obtain ⟨rfl, h2⟩ := FL.step (i := 0) rfl (by decide) hF h0 (by intro p hp; omega) (by omega)
            exact ⟨_, by simp [execOp, wtO, r1], h2⟩
          simp only [Act.put, List.setIfInBounds_toArray, List.set_cons_zero, List.set_cons_succ]
          iterate 6 (refine wpN_read FL.dep rfl (by decide) ?_; go_big_quiet_step (fail); refine wpQuiet_nil ?_)
          refine wpN_step FL.dep rfl (by rfl) (v := .slice yyA yyn yyc) [8] (by kernel_rfl) (fun f W hF h0 h1 => ?_) ?_
          · obtain ⟨rfl, h2⟩ := FL.step (i := 1) rfl (by decide) hF h0 (FL.prev (p := 0) (q := 8) rfl (h1 8 (by simp))) (by omega)
            exact ⟨_, by simp [execOp, resolve, invoke, builtin, Act.eval, wtO, r2], h2⟩
          simp only [Act.put, List.setIfInBounds_toArray, List.set_cons_zero, List.set_cons_succ]
          refine wpN_step FL.dep rfl (by rfl) (v := .agg #[i64 o.ty, .slice yyA yyn yyc]) [15] (by kernel_rfl) (fun f W hF h0 h1 => ?_) ?_
          · obtain ⟨rfl, h2⟩ := FL.step (i := 2) rfl (by decide) hF h0 (FL.prev (p := 1) (q := 15) rfl (h1 15 (by simp))) (by omega)
            exact ⟨_, by simp [execOp, go_sem, wtO, i64], h2⟩
          simp only [Act.put, List.setIfInBounds_toArray, List.set_cons_zero, List.set_cons_succ]
          refine wpN_step FL.dep rfl (by rfl) (v := .slice (some ⟨W2.heap.size, 0, none⟩) 1 1) [16] (by kernel_rfl) (fun f W hF h0 h1 => ?_) ?_
          · obtain ⟨rfl, h2⟩ := FL.step (i := 3) rfl (by decide) hF h0 (FL.prev (p := 2) (q := 16) rfl (h1 16 (by simp))) (by omega)
            exact ⟨_, by simp [execOp, go_sem, wtO, i64], h2⟩
          simp only [Act.put, List.setIfInBounds_toArray, List.set_cons_zero, List.set_cons_succ]
          refine wpN_step FL.dep rfl (by rfl) (v := .slice vA vn vc) [17, 1] (by kernel_rfl) (fun f W hF h0 h1 => ?_) ?_
          · obtain ⟨rfl, h2⟩ := FL.step (i := 4) rfl (by decide) hF h0 (FL.prev (p := 3) (q := 17) rfl (h1 17 (by simp))) (fun _ => h1 1 (by simp))
            exact ⟨_, by simp [execOp, resolve, invoke, builtin, Act.eval, wtO, r3], h2⟩
          simp only [Act.put, List.setIfInBounds_toArray, List.set_cons_zero, List.set_cons_succ]
          refine wpN_read FL.dep rfl (by decide) ?_; go_big_quiet_step (fail); refine wpQuiet_nil ?_
          refine wpN_storeD FL.dep rfl 23 (.tmp 51) (.tmp 50) rfl (by rfl) (p := .pointer (some ⟨p, 1, none⟩)) (u := .slice vA vn vc) (by rfl) (by rfl) [18] (by kernel_rfl) (fun f W hF h0 h1 => ?_) ?_
          · obtain ⟨rfl, h2⟩ := FL.step (i := 5) rfl (by decide) hF h0 (FL.prev (p := 4) (q := 18) rfl (h1 18 (by simp))) (by omega)
            refine ⟨_, ?_, h2⟩
            have hc := MM.out.1.1; have hf := MM.out.1.2
            simp [go_sem, wtO, hc, hf]
          show ∀ w', _ → _
          intro w' hw'
          obtain rfl := FL.done hw'
          have HM := Lib.hid (MM.out.2)
          clear this MM q1 q2 q3 oS0 oT B z1 z2 z4 z5 hw' r1 r2 r3 oy b1 b2 b3 p0 p1 p2 p3 AL ca cb cc B4 o2 o3 gr2 gr3 m0 m1 hxx hlt0
          go_wp2
          go_roundg (NO - (k + 1))
          case measure => omega
          case rel =>
            obtain ⟨k1, k2, k3, k4, k5, _, k7, _⟩ := HM.out
            refine ⟨k + 1, by omega, rfl, by go_num, Lib.hid ⟨_, ?_, k2, k3, k4, k5, k7⟩⟩
            rwa [List.take_add_one, HT.out.out]
        · obtain rfl : k = NO := by omega
          obtain ⟨ot, oO, q1, q2, q3, oT, B⟩ := hh.out
          rw [List.take_of_length_le (by have := HNO.out; omega)] at oO
          obtain ⟨oA, on, oc, rfl⟩ : ∃ A n c, ot = .slice A n c := by obtain ⟨vs, _, z2, _⟩ := oO; obtain ⟨A, c, e⟩ := own_form' z2; exact ⟨A, _, c, e⟩
          obtain ⟨xA, xn, xc, rfl⟩ : ∃ A n c, xt = .slice A n c := by obtain ⟨vs, _, z2, _⟩ := oT; obtain ⟨A, c, e⟩ := own_form' z2; exact ⟨A, _, c, e⟩
          have hsv := (H.out.s.below B)
          have hln := S3.out
          have c1 := q1.cell
          have HQ := Lib.hid (And.intro q1 (And.intro q2 (And.intro q3 (And.intro oT (And.intro oO B)))))
          have HS := Lib.hid hsv
          have a1 := fun o => (q1.alloc o).cell
          have hzB := B.size
          clear hh q1 q2 q3 oT oO B hsv
          go_wp2_with (at_builtin; refine wpList_append (by rfl) rfl rfl rfl Try.underlying24 info_slot rfl (by omega) (by exact lit0_own (B := wr.heap.size) (Nat.le_refl _)) (by exact HS.out.alloc _) (by exact tabL_one _) (by omega) (by omega) (by exact (Below.refl _ wr).alloc (Nat.le_refl _) _) (Nat.le_refl _) ?_; intro v1 w3 o3 B3 g3; obtain ⟨sA, sn, sc, rfl⟩ : ∃ A n c, v1 = .slice A n c := by { obtain ⟨A, c, e⟩ := own_form' o3; exact ⟨A, _, c, e⟩ }; clear g3; have c2 := (HQ.out.2.1.below B3).cell; have f2 := (HQ.out.2.1.below B3).free; have c3 := (HQ.out.2.2.1.below B3).cell; have f3 := (HQ.out.2.2.1.below B3).free)
          refine bodyPost_ret (v := .agg #[.slice xA xn xc, .slice oA on oc, .slice sA sn sc]) (by simp [results, Try.results10, go_sem, c2, c3, f2, f3]) rfl ?_
          obtain ⟨q1, q2, q3, oT, oO, B⟩ := HQ.out
          have oS : OwnS w3 w.heap.size 67 (.slice sA sn sc) m.slots := by
            have := own_mono o3 hzB
            unfold OwnS; simpa using this
          have hM : OwnM w3 w.heap.size 67 (.slice xA xn xc) (.slice oA on oc) (.slice sA sn sc) m := ⟨oT.below B3, oO.below B3, oS⟩
          have q2' := (q2.below B3).far (p := ⟨p, 2, none⟩) (by show w.heap.size + 1 ≠ p; omega) (.slice sA sn sc)
          refine ⟨_, _, _, rfl, OwnM.set3 (hM.set (q3.below B3)) q2', ?_⟩
          have B5 := (B.trans (B3.mono hzB)).setCell (p := ⟨p, 2, none⟩) (by show w.heap.size ≤ p; omega) (.slice sA sn sc)
          exact ((B5.setCell (p := ⟨w.heap.size + 1, 0, none⟩) (by simp) _).setCell (p := ⟨w.heap.size + 1, 1, none⟩) (by simp) _).setCell (p := ⟨w.heap.size + 1, 2, none⟩) (by simp) _
end Go.Proofs.Ytgjpohhafmkhcaa
namespace Go.Proofs.Ytgjpohhafmkhcaa
open Go.RowKit L02 L13 L18 L20
set_option maxRecDepth 100000 in
set_option maxHeartbeats 4000000 in
theorem Great20_any (tv ov sv : Value) (m : Mo) (b : Bool) (hb : b = decide (Great m)) (w : World) (h : Mod w tv ov sv m) :
    Calls Try.prog 9 #[.agg #[tv, ov, sv]] w fun e w' => e = .returned (.bool b) ∧ Below w.heap.size w w' := by
  have B : Below w.heap.size w w := Below.refl _ _
  have lt := h.t.len; have lo := h.o.len; have ls := h.s.len
  have lt' := h.t.len_le; have lo' := h.o.len_le
  have hyes : Great m → b = true := fun hg => by rw [hb, decide_eq_true hg]
  have hno : ¬ Great m → b = false := fun hg => by rw [hb, decide_eq_false hg]
  obtain ⟨NT, hNT⟩ : ∃ N, N = m.types.length := ⟨_, rfl⟩
  obtain ⟨NO, hNO⟩ : ∃ N, N = m.objs.length := ⟨_, rfl⟩
  obtain ⟨NS, hNS⟩ : ∃ N, N = m.slots.length := ⟨_, rfl⟩
  rw [← hNT] at lt lt'; rw [← hNO] at lo lo'; rw [← hNS] at ls
  have H := Lib.hid h; have HNT := Lib.hid hNT; have HNO := Lib.hid hNO; have HNS := Lib.hid hNS; have HY := Lib.hid hyes; have HN := Lib.hid hno
  clear h hb hNT hNO hNS hyes hno
  by_cases h0 : (40 < NO ∧ NO < 960) ∨ 962 < NO ∨ 20 < NT ∨ 30 < NS
  · have hbt : b = true := HY.out (by
      have h1 := HNT.out; have h2 := HNO.out; have h3 := HNS.out
      unfold Great; rw [← h1, ← h2, ← h3]
      rcases h0 with h | h | h | h
      · exact .inl h
      · exact .inr (.inl h)
      · exact .inr (.inr (.inl h))
      · exact .inr (.inr (.inr (.inl h))))
    subst hbt
    have hcase : (40 < NO ∧ NO < 960) ∨ (40 < NO ∧ ¬ NO < 960 ∧ 962 < NO) ∨ (40 < NO ∧ ¬ NO < 960 ∧ ¬ 962 < NO ∧ 20 < NT) ∨ (40 < NO ∧ ¬ NO < 960 ∧ ¬ 962 < NO ∧ ¬ 20 < NT ∧ 30 < NS) ∨ (¬ 40 < NO ∧ ¬ 962 < NO ∧ 20 < NT) ∨ (¬ 40 < NO ∧ ¬ 962 < NO ∧ ¬ 20 < NT ∧ 30 < NS) := by omega
    clear h0
    rcases hcase with ⟨a1, a2⟩ | ⟨a1, a2, a3⟩ | ⟨a1, a2, a3, a4⟩ | ⟨a1, a2, a3, a4, a5⟩ | ⟨a1, a2, a3⟩ | ⟨a1, a2, a3, a4⟩
    all_goals
      go_enter Try.func9, Try.ntmps9
      go_wp2
      go_ret
      exact ⟨rfl, B.alloc B.size _⟩
  · have hcase : (¬ 40 < NO ∧ ¬ 962 < NO) ∨ (40 < NO ∧ ¬ NO < 960 ∧ ¬ 962 < NO) := by omega
    have n1 : ¬ 20 < NT := by omega
    have n2 : ¬ 30 < NS := by omega
    have H0 := Lib.hid h0; clear h0
    have hfin : (∀ (i : Nat) t, i < NT → m.types[i]? = some t → ¬ 20 < t.length) → (∀ (i : Nat) o, i < NO → m.objs[i]? = some o → ¬ 20 < o.fs.length) → b = false := fun ht ho => HN.out (by
      have h1 := HNT.out; have h2 := HNO.out; have h3 := HNS.out; have h4 := H0.out
      unfold Great; rw [← h1, ← h2, ← h3]
      rintro (h | h | h | h | ⟨t, h, hl⟩ | ⟨o, h, hl⟩)
      · exact h4 (.inl h)
      · exact h4 (.inr (.inl h))
      · exact h4 (.inr (.inr (.inl h)))
      · exact h4 (.inr (.inr (.inr h)))
      · obtain ⟨i, hi, hit⟩ := List.getElem_of_mem h
        exact ht i t (by omega) (by rw [List.getElem?_eq_getElem hi, hit]) hl
      · obtain ⟨i, hi, hit⟩ := List.getElem_of_mem h
        exact ho i o (by omega) (by rw [List.getElem?_eq_getElem hi, hit]) hl)
    have HF := Lib.hid hfin; clear hfin
    rcases hcase with ⟨a1, a2⟩ | ⟨a1, a2, a3⟩
    all_goals
      go_enter Try.func9, Try.ntmps9
      go_upto_region 1 with (fail)
      refine wp_gen (fun Wv => Bx Wv (w.heap.size) (26) (#[tv, ov, sv]) ∧ Below w.heap.size w Wv) ⟨((Bx.at_ (by simp))), ((Below.refl _ w).alloc (by simp <;> omega) _)⟩ ?_
      rintro wa1 ⟨g1, b⟩
      replace B := B.trans (b.mono B.size); clear b
      have c_g1 := g1.cell; have f_g1 := g1.free; have a_g1 := fun o => (g1.alloc o).cell; have d_g1 := fun o o2 => ((g1.alloc o).alloc o2).cell; have e_g1 := fun o => (g1.alloc o).free
      have HB := Lib.hid B; clear B
      go_wp2
      have HG1 := Lib.hid g1
      clear g1 c_g1 f_g1 a_g1 d_g1 e_g1
      go_loopg [3] NT (fun g i wr => ∃ j : Nat, j ≤ NT ∧ g = NT - j ∧ i = .int .i64 j ∧ Hid ((∀ (i : Nat) t, i < j → m.types[i]? = some t → ¬ 20 < t.length) ∧ Bx wr w.heap.size 26 #[tv, ov, sv] ∧ Below w.heap.size w wr))
      case atStart => exact ⟨0, by omega, by omega, rfl, Lib.hid ⟨fun i t hi => by omega, HG1.out, HB.out⟩⟩
      case round =>
        clear HG1 HB
        obtain ⟨j, hj, rfl, rfl, hh⟩ := hrel
        have g1 := hh.out.2.1
        have c_g1 := g1.cell
        by_cases hlt : j < NT
        · obtain ⟨ad, y, t, iy, m0, ht, hby⟩ := (H.out.t.below hh.out.2.2).at_ (k := j) (by have := HNT.out; omega)
          have ly := Rd.len hby.out Try.underlying74
          obtain ⟨nt, hnt⟩ : ∃ N, N = t.length := ⟨_, rfl⟩
          rw [← hnt] at ly
          have HNt := Lib.hid hnt; clear hnt
          by_cases hk : 20 < nt
          · have hbt : b = true := HY.out (.inr (.inr (.inr (.inr (.inl ⟨t, List.mem_of_getElem? ht.out, by rw [← HNt.out]; exact hk⟩)))))
            subst hbt
            go_wp2
            go_ret
            exact ⟨rfl, hh.out.2.2⟩
          · go_wp2
            go_roundg (NT - (j + 1))
            case measure => omega
            case rel =>
              refine ⟨j + 1, by omega, rfl, by go_num, Lib.hid ⟨fun i u hi hu => ?_, hh.out.2⟩⟩
              by_cases hij : i < j
              · exact hh.out.1 i u hij hu
              · obtain rfl : i = j := by omega
                have := ht.out; rw [hu] at this; injection this with this; subst this; rw [← HNt.out]; exact hk
        · obtain rfl : j = NT := by omega
          have HT := Lib.hid (fun i t hi => hh.out.1 i t hi); have HB := Lib.hid hh.out.2.2
          clear hh
          go_wp2
          have HG1 := Lib.hid g1
          clear g1 c_g1
          go_loopg [4] NO (fun g i wr => ∃ k : Nat, k ≤ NO ∧ g = NO - k ∧ i = .int .i64 k ∧ Hid ((∀ (i : Nat) o, i < k → m.objs[i]? = some o → ¬ 20 < o.fs.length) ∧ Bx wr w.heap.size 26 #[tv, ov, sv] ∧ Below w.heap.size w wr))
          case atStart => exact ⟨0, by omega, by omega, rfl, Lib.hid ⟨fun i t hi => by omega, HG1.out, HB.out⟩⟩
          case round =>
            clear HG1 HB
            obtain ⟨k, hk, rfl, rfl, hh⟩ := hrel
            have g1 := hh.out.2.1
            have c_g1 := g1.cell
            by_cases hltk : k < NO
            · obtain ⟨ob, oq, x, o, ix, m0, m1, ho, hx, hob⟩ := (H.out.o.below hh.out.2.2).at_ (k := k) (by have := HNO.out; omega)
              have lx := Rd.len hx.out Try.underlying70
              obtain ⟨nt, hnt⟩ : ∃ N, N = o.fs.length := ⟨_, rfl⟩
              rw [← hnt] at lx
              have HNt := Lib.hid hnt; clear hnt
              by_cases hk2 : 20 < nt
              · have hbt : b = true := HY.out (.inr (.inr (.inr (.inr (.inr ⟨o, List.mem_of_getElem? ho.out, by rw [← HNt.out]; exact hk2⟩)))))
                subst hbt
                go_wp2
                go_ret
                exact ⟨rfl, hh.out.2.2⟩
              · go_wp2
                go_roundg (NO - (k + 1))
                case measure => omega
                case rel =>
                  refine ⟨k + 1, by omega, rfl, by go_num, Lib.hid ⟨fun i u hi hu => ?_, hh.out.2⟩⟩
                  by_cases hij : i < k
                  · exact hh.out.1 i u hij hu
                  · obtain rfl : i = k := by omega
                    have := ho.out; rw [hu] at this; injection this with this; subst this; rw [← HNt.out]; exact hk2
            · obtain rfl : k = NO := by omega
              have hbf := HF.out (fun i t hi => HT.out i t hi) (fun i o hi => hh.out.1 i o hi)
              subst hbf
              go_wp2
              go_ret
              exact ⟨rfl, hh.out.2.2⟩
end Go.Proofs.Ytgjpohhafmkhcaa
namespace Go.Proofs.Ytgjpohhafmkhcaa
open Go.RowKit L02 L13 L18 L20
theorem mo_ne {a b : Mo} (h : ¬ (a.types = b.types ∧ a.objs = b.objs ∧ a.slots = b.slots)) : ¬ a = b := fun e => h (by rw [e]; exact ⟨rfl, rfl, rfl⟩)
theorem mo_eq {a b : Mo} (h1 : a.types = b.types) (h2 : a.objs = b.objs) (h3 : a.slots = b.slots) : a = b := by cases a; cases b; simp_all
theorem ob_eq {a b : Ob} (h1 : a.ty = b.ty) (h2 : a.fs = b.fs) : a = b := by cases a; cases b; simp_all
set_option maxRecDepth 100000 in
set_option maxHeartbeats 4000000 in
theorem Same20_any (ta oa sa tb ob sb : Value) (a b : Mo) (r : Bool) (hr : r = decide (a = b)) (w : World) (ha : Mod w ta oa sa a) (hb : Mod w tb ob sb b) :
    Calls Try.prog 19 #[.agg #[ta, oa, sa], .agg #[tb, ob, sb]] w fun e w' => e = .returned (.bool r) ∧ Below w.heap.size w w' := by
  have B : Below w.heap.size w w := Below.refl _ _
  have lo := ha.o.len; have lo2 := hb.o.len
  have lo' := ha.o.len_le; have lo2' := hb.o.len_le
  obtain ⟨z1, hz1⟩ : ∃ z, z = decide (a.types = b.types) := ⟨_, rfl⟩
  obtain ⟨z3, hz3⟩ : ∃ z, z = sameS a.slots b.slots := ⟨_, rfl⟩
  have TT := Lib.hid (fun w h1 h2 => SameT_any ta tb a.types b.types z1 hz1 w h1 h2)
  have ST := Lib.hid (fun w h1 h2 => SameS_any sa sb a.slots b.slots z3 hz3 w h1 h2)
  obtain ⟨NA, hNA⟩ : ∃ N, N = a.objs.length := ⟨_, rfl⟩
  obtain ⟨NB, hNB⟩ : ∃ N, N = b.objs.length := ⟨_, rfl⟩
  rw [← hNA] at lo lo'; rw [← hNB] at lo2 lo2'
  have HA := Lib.hid ha; have HB := Lib.hid hb; have HNA := Lib.hid hNA; have HNB := Lib.hid hNB; have HR := Lib.hid hr; have HZ1 := Lib.hid hz1; have HZ3 := Lib.hid hz3
  have hno : ¬ (a.types = b.types ∧ a.objs = b.objs ∧ a.slots = b.slots) → r = false := fun h => by rw [hr]; exact decide_eq_false (mo_ne h)
  have HNO := Lib.hid hno
  clear ha hb hNA hNB hr hz1 hz3 hno
  go_enter Try.func19, Try.ntmps19
  go_upto_region 1 with (fail)
  refine wp_gen (fun Wv => Bx Wv (w.heap.size) (26) (#[ta, oa, sa]) ∧ Bx Wv (w.heap.size + 1) (26) (#[tb, ob, sb]) ∧ Below w.heap.size w Wv) ⟨(((Bx.at_ (by simp)).alloc _)), ((Bx.at_ (by simp))), (((Below.refl _ w).alloc (by simp <;> omega) _).alloc (by simp <;> omega) _)⟩ ?_
  rintro wa1 ⟨g1, g2, b⟩
  replace B := B.trans (b.mono B.size); clear b
  have c_g1 := g1.cell; have f_g1 := g1.free; have a_g1 := fun o => (g1.alloc o).cell; have d_g1 := fun o o2 => ((g1.alloc o).alloc o2).cell; have e_g1 := fun o => (g1.alloc o).free
  have c_g2 := g2.cell; have f_g2 := g2.free; have a_g2 := fun o => (g2.alloc o).cell; have d_g2 := fun o o2 => ((g2.alloc o).alloc o2).cell; have e_g2 := fun o => (g2.alloc o).free
  go_wp2_with fail
  refine (TT.out _ (HA.out.t.below B) (HB.out.t.below B)).mono ?_
  rintro e w2 ⟨rfl, b2⟩
  replace g1 := g1.below b2; replace g2 := g2.below b2; replace B := B.trans (b2.mono B.size)
  clear b2 c_g1 c_g2 f_g1 f_g2 a_g1 a_g2 d_g1 d_g2 e_g1 e_g2
  have c_g1 := g1.cell; have c_g2 := g2.cell
  cases z1
  · have hrf := HNO.out (fun h => by have := HZ1.out; rw [eq_comm, decide_eq_false_iff_not] at this; exact this h.1)
    subst hrf
    go_wp2
    go_ret
    exact ⟨rfl, B⟩
  · by_cases hl : NA = NB
    · have hl1 : ((NA : Int) != (NB : Int)) = false := by rw [bne_eq_false_iff_eq]; omega
      have HL := Lib.hid hl; clear hl
      go_wp2_with fail
      refine (ST.out _ (HA.out.s.below B) (HB.out.s.below B)).mono ?_
      rintro e w3 ⟨rfl, b2⟩
      replace g1 := g1.below b2; replace g2 := g2.below b2; replace B := B.trans (b2.mono B.size)
      clear b2 c_g1 c_g2
      cases z3
      · have hrf := HNO.out (fun h => by have := HZ3.out; rw [sameS, eq_comm, decide_eq_false_iff_not] at this; exact this h.2.2)
        subst hrf
        go_wp2
        go_ret
        exact ⟨rfl, B⟩
      · have HG := Lib.hid (And.intro g1 (And.intro g2 B))
        clear g1 g2 B
        go_wp2
        go_loopg [5] NA (fun g i wr => ∃ k : Nat, k ≤ NA ∧ g = NA - k ∧ i = .int .i64 k ∧ Hid (a.objs.take k = b.objs.take k ∧ Bx wr w.heap.size 26 #[ta, oa, sa] ∧ Bx wr (w.heap.size + 1) 26 #[tb, ob, sb] ∧ Below w.heap.size w wr))
        case atStart => exact ⟨0, by omega, by omega, rfl, Lib.hid ⟨by simp, HG.out⟩⟩
        case round =>
          clear HG
          obtain ⟨k, hk, rfl, rfl, hh⟩ := hrel
          obtain ⟨heq, g1, g2, B⟩ := hh.out
          have HEQ := Lib.hid heq
          clear hh heq
          have c_g1 := g1.cell; have c_g2 := g2.cell
          by_cases hlt : k < NA
          · obtain ⟨bb, bq, x, o, ix, m0, m1, ho, hx, hxb⟩ := (HA.out.o.below B).at_ (k := k) (by have := HNA.out; omega)
            obtain ⟨cb, cq, y, p, iy, m2, m3, hp, hy, hyb⟩ := (HB.out.o.below B).at_ (k := k) (by have := HNB.out; have := HL.out; omega)
            have hxx := hx.out; have hyy := hy.out
            by_cases hty : o.ty = p.ty
            · have ht : (o.ty != p.ty) = false := by rw [bne_eq_false_iff_eq]; exact hty
              obtain ⟨q, hq⟩ : ∃ q, q = L02.same o.fs p.fs := ⟨_, rfl⟩
              have SW := Lib.hid (fun w h1 h2 => Same_r x y o.fs p.fs q hq w h1 h2)
              have HQ := Lib.hid hq; have HTY := Lib.hid hty; clear hq hty
              have HXX := Lib.hid hxx; have HYY := Lib.hid hyy
              go_upto_region 6 with (fail)
              have HC := Lib.hid (fun z : Fut wr => And.intro (HXX.out.below z.h) (HYY.out.below z.h))
              clear hxx hyy
              refine wp_region_calm (by kernel_rfl) (by kernel_rfl) ?_
              try clear c_g1 f_g1 a_g1 d_g1 e_g1
              have c_g1 := fun x : Fut _ => (g1.below x.h).cell
              try clear c_g2 f_g2 a_g2 d_g2 e_g2
              have c_g2 := fun x : Fut _ => (g2.below x.h).cell
              have c_m0 := fun x : Fut _ => cell_later x.h m0
              have c_m1 := fun x : Fut _ => cell_later x.h m1
              have c_m2 := fun x : Fut _ => cell_later x.h m2
              have c_m3 := fun x : Fut _ => cell_later x.h m3
              repeat (go_big_quiet_step (exact Fut.call (SW.out _ (HC.out _).1 (HC.out _).2)))
              refine wpQuiet_nil ?_
              intro _ hw'
              obtain ⟨xq, hw''⟩ := hw'
              subst hw''
              clear c_g1; replace g1 := g1.below xq.h; have c_g1 := g1.cell; have f_g1 := g1.free; have a_g1 := fun o => (g1.alloc o).cell; have d_g1 := fun o o2 => ((g1.alloc o).alloc o2).cell; have e_g1 := fun o => (g1.alloc o).free
              clear c_g2; replace g2 := g2.below xq.h; have c_g2 := g2.cell; have f_g2 := g2.free; have a_g2 := fun o => (g2.alloc o).cell; have d_g2 := fun o o2 => ((g2.alloc o).alloc o2).cell; have e_g2 := fun o => (g2.alloc o).free
              clear c_m0; replace m0 := cell_later xq.h m0
              clear c_m1; replace m1 := cell_later xq.h m1
              clear c_m2; replace m2 := cell_later xq.h m2
              clear c_m3; replace m3 := cell_later xq.h m3
              replace B := B.trans (xq.h.mono B.size)
              cases q
              · have hrf := HNO.out (fun h => by
                  have h1 := ho.out; have h2 := hp.out
                  rw [h.2.1, h2] at h1; injection h1 with h1
                  have := HQ.out; rw [h1] at this
                  simp [L02.same] at this)
                subst hrf
                go_wp2
                go_ret
                exact ⟨rfl, B⟩
              · have hs : o.fs = p.fs := by have := HQ.out; simpa [L02.same, eq_comm] using this
                have HS := Lib.hid (ob_eq HTY.out hs); clear hs
                have HH := Lib.hid (And.intro g1 (And.intro g2 B))
                clear g1 g2 B c_g1 c_g2 f_g1 f_g2 a_g1 a_g2 d_g1 d_g2 e_g1 e_g2 m0 m1 m2 m3
                go_wp2
                go_roundg (NA - (k + 1))
                case measure => omega
                case rel =>
                  refine ⟨k + 1, by omega, rfl, by go_num, Lib.hid ⟨?_, HH.out⟩⟩
                  rw [List.take_add_one, List.take_add_one, HEQ.out, ho.out, hp.out, HS.out]
            · have ht : (o.ty != p.ty) = true := by rw [bne_iff_ne]; exact hty
              have hrf := HNO.out (fun h => by
                have h1 := ho.out; have h2 := hp.out
                rw [h.2.1, h2] at h1; injection h1 with h1
                exact hty (by rw [h1]))
              subst hrf
              clear hxx hyy hty
              go_upto_region 6 with (fail)
              refine wp_region_calm (by kernel_rfl) (by kernel_rfl) ?_
              try clear c_g1 f_g1 a_g1 d_g1 e_g1
              have c_g1 := fun x : Fut _ => (g1.below x.h).cell
              try clear c_g2 f_g2 a_g2 d_g2 e_g2
              have c_g2 := fun x : Fut _ => (g2.below x.h).cell
              have c_m0 := fun x : Fut _ => cell_later x.h m0
              have c_m1 := fun x : Fut _ => cell_later x.h m1
              have c_m2 := fun x : Fut _ => cell_later x.h m2
              have c_m3 := fun x : Fut _ => cell_later x.h m3
              repeat (go_big_quiet_step (fail))
              refine wpQuiet_nil ?_
              intro _ hw'
              obtain ⟨xq, hw''⟩ := hw'
              subst hw''
              clear c_g1; replace g1 := g1.below xq.h; have c_g1 := g1.cell; have f_g1 := g1.free; have a_g1 := fun o => (g1.alloc o).cell; have d_g1 := fun o o2 => ((g1.alloc o).alloc o2).cell; have e_g1 := fun o => (g1.alloc o).free
              clear c_g2; replace g2 := g2.below xq.h; have c_g2 := g2.cell; have f_g2 := g2.free; have a_g2 := fun o => (g2.alloc o).cell; have d_g2 := fun o o2 => ((g2.alloc o).alloc o2).cell; have e_g2 := fun o => (g2.alloc o).free
              clear c_m0; replace m0 := cell_later xq.h m0
              clear c_m1; replace m1 := cell_later xq.h m1
              clear c_m2; replace m2 := cell_later xq.h m2
              clear c_m3; replace m3 := cell_later xq.h m3
              replace B := B.trans (xq.h.mono B.size)
              go_wp2
              go_ret
              exact ⟨rfl, B⟩
          · obtain rfl : k = NA := by omega
            have hrt : r = true := by
              rw [HR.out, decide_eq_true_iff]
              have h1 := HEQ.out
              rw [List.take_of_length_le (by have := HNA.out; omega), List.take_of_length_le (by have := HNB.out; have := HL.out; omega)] at h1
              have h2 := HZ1.out; have h3 := HZ3.out
              rw [eq_comm, decide_eq_true_iff] at h2
              rw [sameS, eq_comm, decide_eq_true_iff] at h3
              exact mo_eq h2 h1 h3
            subst hrt
            go_wp2
            go_ret
            exact ⟨rfl, B⟩
    · have hl1 : ((NA : Int) != (NB : Int)) = true := by rw [bne_iff_ne]; omega
      have hrf := HNO.out (fun h => hl (by rw [HNA.out, HNB.out, h.2.1]))
      subst hrf
      clear hl
      go_wp2
      go_ret
      exact ⟨rfl, B⟩
end Go.Proofs.Ytgjpohhafmkhcaa
namespace Go.Proofs.Ytgjpohhafmkhcaa
open Go Go.RowKit
section
variable {P : Program} {ops : Array Oper} {md : Region.Mode}
/-- a number of nn yields its value, whatever its world; the others as they do -/
def YieldsM (P : Program) (md : Region.Mode) (ops : Array Oper) (C : Array Bool → World → Prop) (nn : Nat → Bool) (x : Nat → Value) (i : Nat) (o : Oper) (v : Value) (a : Act) : Prop :=
  (nn i = true ∧ v = x i ∧ Region.wanted o (yielded ops a.tmps) = true) ∨ (nn i = false ∧ YieldsV P md ops C i o v a)
theorem YieldsM.of_same {C : Array Bool → World → Prop} {nn : Nat → Bool} {x : Nat → Value} {i : Nat} {o : Oper} {v : Value} {a a' : Act} (hy : YieldsM P md ops C nn x i o v a) (he : execOp a'.eval o = execOp a.eval o)
    (hw : Region.wanted o (yielded ops a'.tmps) = Region.wanted o (yielded ops a.tmps)) : YieldsM P md ops C nn x i o v a' := by
  rcases hy with ⟨h1, h2, h3⟩ | ⟨h1, h2⟩
  · exact .inl ⟨h1, h2, by rw [hw]; exact h3⟩
  · exact .inr ⟨h1, h2.of_same he hw⟩
/-- T a: what the operation k0 does at the act a -/
def qOpM (P : Program) (md : Region.Mode) (ops : Array Oper) (C : Array Bool → World → Prop) (nn : Nat → Bool) (x : Nat → Value) (T : Nat → Sem Next → Prop) (i : Nat) (K : Act → Prop) (a : Act) : Prop :=
  match ops[i]? with
  | none => False
  | some o => ∃ v, (YieldsM P md ops C nn x i o v a ∧ (nn i = true → T i (execOp a.eval o))) ∧ K (a.put o.dst v)
variable {C : Array Bool → World → Prop} {nn : Nat → Bool} {x : Nat → Value} {T : Nat → Sem Next → Prop}
theorem qOpM_mono {i : Nat} {a : Act} {K K' : Act → Prop} (h : ∀ a, K a → K' a) (hh : qOpM P md ops C nn x T i K a) : qOpM P md ops C nn x T i K' a := by
  unfold qOpM at *
  split
  · rename_i ho; simp only [ho] at hh
  · rename_i o ho
    simp only [ho] at hh
    obtain ⟨v, h1, h2⟩ := hh
    exact ⟨v, h1, h _ h2⟩
def wpAnyM (P : Program) (md : Region.Mode) (ops : Array Oper) (C : Array Bool → World → Prop) (nn : Nat → Bool) (x : Nat → Value) (T : Nat → Sem Next → Prop) (Q : Array Bool → Act → Prop) : Nat → Array Bool → Act → Prop
  | 0, listed, a => Region.ready md ops listed = [] ∧ Q listed a
  | fuel + 1, listed, a =>
    (Region.ready md ops listed = [] → Q listed a) ∧
    ∀ i ∈ Region.ready md ops listed, qOpM P md ops C nn x T i (wpAnyM P md ops C nn x T Q fuel (listed.setIfInBounds i true)) a
theorem qOpM_put {i j : Nat} {oi oj : Oper} {v : Value} (hj : ops[j]? = some oj) (hap : oi.apart ops oj = true)
    (hsi : ∀ cs b, oi.op ≠ .select cs b) (hsj : ∀ cs b, oj.op ≠ .select cs b) {K : Act → Prop} {a : Act}
    (hy : YieldsM P md ops C nn x i oi v a ∧ (nn i = true → T i (execOp a.eval oi))) (h : qOpM P md ops C nn x T j K (a.put oi.dst v)) :
    qOpM P md ops C nn x T j (fun a' => (YieldsM P md ops C nn x i oi v a' ∧ (nn i = true → T i (execOp a'.eval oi))) ∧ K (a'.put oi.dst v)) a := by
  obtain ⟨h1, h2, h3⟩ := Oper.apart_spec hap
  unfold qOpM at *
  simp only [hj] at *
  obtain ⟨u, ⟨hu, hu2⟩, hn⟩ := h
  refine ⟨u, ⟨hu.of_same ?_ ?_, fun e => ?_⟩, ⟨hy.1.of_same ?_ ?_, fun e => ?_⟩, ?_⟩
  · exact (execOp_put oj hsj a oi.dst v h1).symm
  · exact (wanted_put oj a oi.dst v h1).symm
  · have := hu2 e; rwa [execOp_put oj hsj a oi.dst v h1] at this
  · exact execOp_put oi hsi a oj.dst u h3
  · exact wanted_put oi a oj.dst u h3
  · have := hy.2 e; rwa [execOp_put oi hsi a oj.dst u h3]
  · rw [← Act.put_comm a v u h2]; exact hn
theorem wpAnyM_first {Q : Array Bool → Act → Prop} {i : Nat} {oi : Oper} {v : Value} (hi : ops[i]? = some oi) (hsel : ∀ (j : Nat) (o : Oper) cs b, ops[j]? = some o → o.op ≠ .select cs b) :
    ∀ (fuel : Nat) (listed : Array Bool) (a : Act),
      (∀ j oj, ops[j]? = some oj → j ≠ i → listed.getD j true = false → (∀ e ∈ oj.after, Region.binds md e = true → e.on ≠ i) → oi.apart ops oj = true) →
      i ∈ Region.ready md ops listed → YieldsM P md ops C nn x i oi v a ∧ (nn i = true → T i (execOp a.eval oi)) →
      wpAnyM P md ops C nn x T Q fuel (listed.setIfInBounds i true) (a.put oi.dst v) → wpAnyM P md ops C nn x T Q (fuel + 1) listed a := by
  intro fuel
  induction fuel with
  | zero =>
    intro listed a _ hr hy H
    refine ⟨fun h => (by rw [h] at hr; cases hr), fun j hj => ?_⟩
    by_cases hji : j = i
    · subst hji
      unfold qOpM; simp only [hi]
      exact ⟨v, hy, H⟩
    · have := ready_mono hj hji
      rw [H.1] at this
      cases this
  | succ fuel ih =>
    intro listed a hfree hr hy H
    refine ⟨fun h => (by rw [h] at hr; cases hr), fun j hj => ?_⟩
    by_cases hji : j = i
    · subst hji
      unfold qOpM; simp only [hi]
      exact ⟨v, hy, H⟩
    · have h1 := H.2 j (ready_mono hj hji)
      obtain ⟨hjun, oj, hoj, hall⟩ := mem_ready.1 hj
      have hnot : ∀ e ∈ oj.after, Region.binds md e = true → e.on ≠ i := fun e he hb heq => by
        have h1 := hall e he hb
        have h0 := (mem_ready.1 hr).1
        rw [heq] at h1
        rcases Nat.lt_or_ge i listed.size with h' | h'
        · simp [h'] at h0 h1; rw [h0] at h1; cases h1
        · simp [Array.getElem?_eq_none h'] at h1
      have h2 := qOpM_put hoj (hfree j oj hoj hji hjun hnot) (fun cs b => hsel i oi cs b hi) (fun cs b => hsel j oj cs b hoj) hy h1
      have hfree' : ∀ k ok, ops[k]? = some ok → k ≠ i → (listed.setIfInBounds j true).getD k true = false →
          (∀ e ∈ ok.after, Region.binds md e = true → e.on ≠ i) → oi.apart ops ok = true := fun k ok hk hki hun hno => by
        refine hfree k ok hk hki ?_ hno
        by_cases hjk : j = k
        · subst hjk; exact hjun
        · rw [getD_set_ne true hjk] at hun; exact hun
      refine qOpM_mono (fun a' h3 => ih (listed.setIfInBounds j true) a' hfree' (ready_mono hr (Ne.symm hji)) h3.1 ?_) h2
      rw [Array.setIfInBounds_comm _ _ hji]
      exact h3.2
/-- the walk in the order of the text, number k first -/
def wpM (P : Program) (md : Region.Mode) (ops : Array Oper) (C : Array Bool → World → Prop) (nn : Nat → Bool) (x : Nat → Value) (T : Nat → Sem Next → Prop) (Q : Act → Prop) : List Oper → Nat → Act → Prop
  | [], _, a => Q a
  | o :: rest, k, a => ∃ v, (YieldsM P md ops C nn x k o v a ∧ (nn k = true → T k (execOp a.eval o))) ∧ wpM P md ops C nn x T Q rest (k + 1) (a.put o.dst v)
theorem wpAnyM_lex {Q : Array Bool → Act → Prop} (hs : Region.noSelect ops = true) : ∀ (l : List Oper) (k : Nat) (listed : Array Bool) (a : Act), (∀ j, l[j]? = ops[k + j]?) →
    Region.lexFrom md ops l.length k listed = true → wpM P md ops C nn x T (Q (setAll l.length k listed)) l k a → wpAnyM P md ops C nn x T Q l.length listed a
  | [], _, _, _, _, hB, h => ⟨by simpa [Region.lexFrom] using hB, h⟩
  | o :: l, k, listed, a, hl, hB, h => by
    have h0 : ops[k]? = some o := by simpa using (hl 0).symm
    simp only [List.length_cons, Region.lexFrom, Bool.and_eq_true] at hB
    obtain ⟨⟨hr, hf⟩, hB'⟩ := hB
    obtain ⟨v, hy, hK⟩ := h
    exact wpAnyM_first h0 (Region.noSelect_spec hs) l.length listed a (Region.free_spec h0 hf) (by simpa using hr) hy
      (wpAnyM_lex hs l (k + 1) _ _ (fun j => by have := hl (j + 1); simpa [Nat.add_assoc, Nat.add_comm 1 j] using this) hB' hK)
def uponN (P : Program) (Post : Value → World → Prop) : Result Next → Prop
  | .ok (.value u) w' => Post u w'
  | .ok (.enter f args) w' => Calls P f args w' (fun e w'' => ∃ u, e = .returned u ∧ Post u w'')
  | _ => False
theorem uponN_mono {P : Program} {Post Post' : Value → World → Prop} {r : Result Next} (h : ∀ v w, Post v w → Post' v w) (hr : uponN P Post r) : uponN P Post' r := by
  cases r with
  | ok n w' =>
    cases n <;> simp only [uponN] at hr ⊢
    case value u => exact h _ _ hr
    case enter f args => exact hr.mono fun e w'' ⟨u, he, hp⟩ => ⟨u, he, h _ _ hp⟩
  | halt y w' => simp only [uponN] at hr
/-- the theorem: G is what is not known ahead; val its values; Ag: two of G that do not differ in what has run; C g what holds of worlds where it is g -/
theorem wpAny_of_M {G : Type} {val : G → Nat → Value} {V : G → Prop} {Ag : Array Bool → G → G → Prop} {Cg : G → Array Bool → World → Prop} {Tg : Nat → Sem Next → Prop} {Q' : Exit → Act → World → Prop}
    (hrf : ∀ (l : Array Bool) g, Ag l g g) (htr : ∀ (l : Array Bool) g g' g'', Ag l g g' → Ag l g' g'' → Ag l g g'') (hmn : ∀ (l : Array Bool) i g g', Ag (l.setIfInBounds i true) g g' → l.getD i true = false → Ag l g g')
    (hvl : ∀ (l : Array Bool) i g g', nn i = true → l.getD i true = false → Ag (l.setIfInBounds i true) g g' → val g i = val g' i) (hag : ∀ (l : Array Bool) g g' w, Ag l g g' → Cg g l w → Cg g' l w)
    (hT : ∀ i s (l : Array Bool) w g, nn i = true → Tg i s → V g → i ∈ Region.ready md ops l → Cg g l w → uponN P (fun v w' => ∃ g', V g' ∧ Ag l g g' ∧ v = val g' i ∧ Cg g' (l.setIfInBounds i true) w') (s.run P w)) :
    ∀ (fuel : Nat) (l : Array Bool) (a : Act) (w : World) (g0 : G), V g0 → Cg g0 l w →
    (∀ g, V g → Ag l g0 g → wpAnyM P md ops (Cg g) nn (val g) Tg (fun l a => ∀ w', Cg g l w' → Q' .normal a w') fuel l a) → wpAny P md ops Q' fuel l a w
  | 0, l, a, w, g0, hg0, hC, h => ⟨(h g0 hg0 (hrf _ _)).1, (h g0 hg0 (hrf _ _)).2 w hC⟩
  | fuel + 1, l, a, w, g0, hg0, hC, h => by
    refine ⟨fun h0 => (h g0 hg0 (hrf _ _)).1 h0 w hC, fun i hi => ?_⟩
    have hun := (mem_ready.1 hi).1
    have h1 := (h g0 hg0 (hrf _ _)).2 i hi
    unfold qOpM at h1
    unfold wpOp
    split
    · rename_i ho; simp only [ho] at h1
    · rename_i o ho
      simp only [ho] at h1
      obtain ⟨v, ⟨h2, hT0⟩, h3⟩ := h1
      -- what comes behind a number of nn that has yielded val g' i
      have next : nn i = true → ∀ g', V g' → Ag l g0 g' → ∀ w', Cg g' (l.setIfInBounds i true) w' → wpAny P md ops Q' fuel (l.setIfInBounds i true) (a.put o.dst (val g' i)) w' := by
        intro hn g' hg' hA w' hC'
        refine wpAny_of_M hrf htr hmn hvl hag hT fuel _ _ w' g' hg' hC' fun g hg hA2 => ?_
        have h4 := (h g hg (htr _ _ _ _ hA (hmn _ _ _ _ hA2 hun))).2 i hi
        unfold qOpM at h4
        simp only [ho] at h4
        obtain ⟨v', ⟨h5, _⟩, h6⟩ := h4
        rcases h5 with ⟨_, e5, _⟩ | ⟨hne, _⟩
        · rw [hvl _ _ _ _ hn hun hA2, ← e5]; exact h6
        · rw [hn] at hne; cases hne
      rcases h2 with ⟨hn, hv, hw⟩ | ⟨hn, h2⟩
      · rw [if_pos hw]
        left
        have h5 := hT i _ l w g0 hn (hT0 hn) hg0 hi hC
        unfold Oper.wp
        generalize (execOp a.eval o).run P w = r at *
        cases r with
        | ok n w' =>
          cases n <;> simp only [uponN] at h5 <;> simp only [Oper.upon]
          case value u => obtain ⟨g', e1, e2, rfl, e4⟩ := h5; exact next hn g' e1 e2 _ e4
          case enter f args =>
            refine h5.mono fun e w'' ⟨u, he, g', e1, e2, e3, e4⟩ => ?_
            subst he; subst e3
            exact next hn g' e1 e2 _ e4
        | halt y w' => simp only [uponN] at h5
      · have hval : ∀ g, V g → Ag (l.setIfInBounds i true) g0 g → wpAnyM P md ops (Cg g) nn (val g) Tg (fun l a => ∀ w', Cg g l w' → Q' .normal a w') fuel (l.setIfInBounds i true) (a.put o.dst v) := by
          intro g hg hA2
          have hA := hmn _ _ _ _ hA2 hun
          have h4 := (h g hg hA).2 i hi
          unfold qOpM at h4
          simp only [ho] at h4
          obtain ⟨v', ⟨h5, _⟩, h6⟩ := h4
          rcases h5 with ⟨e, _⟩ | ⟨_, h5⟩
          · rw [hn] at e; cases e
          · have hvv : v = v' := by
              rcases h2 with ⟨hw, ha⟩ | ⟨hw, rfl, _⟩
              · rcases h5 with ⟨_, hb⟩ | ⟨hw', _⟩
                · exact uponV_val (ha l w hi hC) (hb l w hi (hag _ _ _ _ hA hC))
                · rw [hw] at hw'; cases hw'
              · rcases h5 with ⟨hw', _⟩ | ⟨_, e, _⟩
                · rw [hw] at hw'; cases hw'
                · exact e.symm
            rw [hvv]; exact h6
        rcases h2 with ⟨hw, ha⟩ | ⟨hw, rfl, hv⟩
        · rw [if_pos hw]
          left
          have h5 := ha l w hi hC
          unfold Oper.wp
          generalize (execOp a.eval o).run P w = r at *
          cases r with
          | ok n w' =>
            cases n <;> simp only [uponV] at h5 <;> simp only [Oper.upon]
            case value u => obtain ⟨e1, e2⟩ := h5; rw [e1]; exact wpAny_of_M hrf htr hmn hvl hag hT fuel _ _ w' g0 hg0 e2 hval
            case skip => obtain ⟨e1, e2⟩ := h5; rw [← e1]; exact wpAny_of_M hrf htr hmn hvl hag hT fuel _ _ w' g0 hg0 e2 hval
          | halt y w' => simp only [uponV] at h5
        · rw [if_neg (by rw [hw]; exact Bool.false_ne_true)]
          exact wpAny_of_M hrf htr hmn hvl hag hT fuel _ _ w g0 hg0 (hv l w hi hC) hval
end
section
variable {P : Program} {ops : Array Oper} {rest : List Oper} {o : Oper} {a : Act} {Q : Act → Prop} {F : (Nat → Bool) → World → Prop} {js : List Nat} {k : Nat} {nn : Nat → Bool} {md : Region.Mode} {x : Nat → Value} {T : Nat → Sem Next → Prop}
theorem wpM_nil (h : Q a) : wpM P md ops (CN F) nn x T Q [] k a := h
/-- an operation of nn -/
theorem wpM_new (hn : nn k = true) (hw : Region.wanted o (yielded ops a.tmps) = true) (hT : T k (execOp a.eval o)) (h : wpM P md ops (CN F) nn x T Q rest (k + 1) (a.put o.dst (x k))) : wpM P md ops (CN F) nn x T Q (o :: rest) k a :=
  ⟨x k, ⟨.inl ⟨hn, rfl, hw⟩, fun _ => hT⟩, h⟩
theorem wpM_read (hD : Dep F js) (hV : isV o.op = true) (hk : k ∉ js) (hn : nn k = false) (h : wpQuiet P ops (fun W => ∃ x : FXN F, W = x.W) (fun a' => wpM P md ops (CN F) nn x T Q rest (k + 1) a') [o] a) : wpM P md ops (CN F) nn x T Q (o :: rest) k a := by
  unfold wpQuiet at h
  split at h
  · rename_i hw
    obtain ⟨v, h1, h2⟩ := h
    refine ⟨v, ⟨.inr ⟨hn, .inl ⟨hw, fun listed W hl hW => ?_⟩⟩, fun e => by rw [hn] at e; cases e⟩, h2⟩
    have h3 := h1 W ⟨⟨W, _, hW⟩, rfl⟩
    unfold Oper.quietAt at h3
    cases hr : (execOp a.eval o).run P W with
    | ok n w' =>
      obtain ⟨u, rfl⟩ := isV_value hV hr
      rw [hr] at h3
      simp only [Oper.quietUpon] at h3
      simp only [uponV]
      obtain ⟨e1, e2⟩ := h3
      subst e1
      exact ⟨e2, hW.skip hD hk⟩
    | halt x w' => rw [hr] at h3; simp only [Oper.quietUpon] at h3
  · rename_i hw
    exact ⟨undef, ⟨.inr ⟨hn, .inr ⟨by simpa using hw, rfl, fun listed W hl hW => hW.skip hD hk⟩⟩, fun e => by rw [hn] at e; cases e⟩, h⟩
/-- an operation that yields one value in every world, and changes none -/
theorem wpM_pure (hD : Dep F js) (hk : k ∉ js) (hn : nn k = false) (hw : Region.wanted o (yielded ops a.tmps) = true) {v : Value} (hr : ∀ W, (execOp a.eval o).run P W = .ok (.value v) W) (h : wpM P md ops (CN F) nn x T Q rest (k + 1) (a.put o.dst v)) : wpM P md ops (CN F) nn x T Q (o :: rest) k a :=
  ⟨v, ⟨.inr ⟨hn, .inl ⟨hw, fun listed W hl hW => by rw [hr W]; exact ⟨rfl, hW.skip hD hk⟩⟩⟩, fun e => by rw [hn] at e; cases e⟩, h⟩
theorem wpM_store (hD : Dep F js) (hn : nn k = false) (hi : ops[k]? = some o) (ty : TypeId) (px py : Operand) (ho : o.op = .store ty px py) (hw : Region.wanted o (yielded ops a.tmps) = true) {p u : Value} (hx : a.eval px = p) (hy : a.eval py = u) (dep : List Nat) (hd : (dep.all fun j => o.after.any fun e => Region.binds md e && e.on == j) = true)
    (hs : ∀ f W, F f W → f k = false → (∀ j ∈ dep, f j = true) → ∃ W', (Instr.storeAt ty p u).run P W = .ok () W' ∧ F (fun i => i == k || f i) W') (h : wpM P md ops (CN F) nn x T Q rest (k + 1) (a.put o.dst undef)) : wpM P md ops (CN F) nn x T Q (o :: rest) k a := by
  refine ⟨undef, ⟨.inr ⟨hn, .inl ⟨hw, fun listed W hl hW => ?_⟩⟩, fun e => by rw [hn] at e; cases e⟩, h⟩
  have hk : listed.getD k false = false := by
    have h1 := (mem_ready.1 hl).1
    rcases Nat.lt_or_ge k listed.size with h' | h'
    · simp [h'] at h1 ⊢; exact h1
    · simp [Array.getElem?_eq_none h'] at h1 
  obtain ⟨W', h1, h2⟩ := hs _ W hW hk (fun j hj => ready_after hi (List.all_eq_true.1 hd j hj) hl)
  unfold execOp
  simp only [ho, hx, hy, Sem.run_bind, h1, Result.andThen_ok, Sem.run_pure, uponV, true_and]
  refine hD _ _ _ (fun j hj => ?_) h2
  by_cases hjk : j = k
  · subst hjk
    rw [(getD_on (mem_ready.1 hl).1).2]; simp
  · have hne : k ≠ j := Ne.symm hjk
    rw [getD_set_ne false hne]; simp [hjk]
end
/-- the region: ns are the operations whose values are not known ahead; dep what they wait for; T what they run -/
theorem wp_region_M {P : Program} {id : Nat} {Q : Exit → Act → World → Prop} {a : Act} {w : World} {l : List Oper} {G : Type} (val : G → Nat → Value) (Ag : (Nat → Bool) → G → G → Prop) (F : G → (Nat → Bool) → World → Prop) (js ns : List Nat) (dep : Nat → List Nat) (T : Nat → Sem Next → Prop) (g0 : G)
    (hD : ∀ g, Dep (F g) js) (hm : P.follows .mixedOrders = true) (hB : Region.lexB .any l.toArray = true)
    (hf : (js.all fun j => (setAll l.length 0 (Array.replicate l.length false)).getD j false) = true)
    (hnj : (ns.all fun k => js.contains k && match l.toArray[k]? with | some o => (dep k).all (fun j => o.after.any fun e => Region.binds .any e && e.on == j) | none => false) = true)
    (hAD : ∀ (φ ψ : Nat → Bool) g g', (∀ j ∈ js, φ j = ψ j) → Ag φ g g' → Ag ψ g g') (hrf : ∀ φ g, Ag φ g g) (htr : ∀ φ g g' g'', Ag φ g g' → Ag φ g' g'' → Ag φ g g'') (hmn : ∀ (φ : Nat → Bool) k g g', Ag (fun i => i == k || φ i) g g' → φ k = false → Ag φ g g')
    (hvl : ∀ (φ : Nat → Bool) k g g', k ∈ ns → φ k = false → Ag (fun i => i == k || φ i) g g' → val g k = val g' k) (hag : ∀ φ g g' W, Ag φ g g' → F g φ W → F g' φ W)
    (h0 : ∀ g, Ag (fun _ => false) g0 g) (hC : F g0 (fun _ => false) w.drew)
    (hT : ∀ k s (φ : Nat → Bool) W g, k ∈ ns → T k s → φ k = false → (∀ j ∈ dep k, φ j = true) → F g φ W → uponN P (fun v W' => ∃ g', Ag φ g g' ∧ v = val g' k ∧ F g' (fun i => i == k || φ i) W') (s.run P W))
    (h : ∀ g, wpM P .any l.toArray (CN (F g)) (fun i => ns.contains i) (val g) T (fun a' => ∀ w', F g (fun _ => true) w' → Q .normal a' w') l 0 a) : (Code.region id l.toArray true).wp P Q a w := by
  have hrep : ∀ j, (Array.replicate l.length false).getD j false = false := fun j => getD_replicate_false _ _
  simp only [Region.lexB, Bool.and_eq_true] at hB
  have un : ∀ {listed : Array Bool} {i : Nat}, listed.getD i true = false → listed.getD i false = false := fun {listed i} h1 => by
    rcases Nat.lt_or_ge i listed.size with h' | h'
    · simp [h'] at h1 ⊢; exact h1
    · simp [Array.getElem?_eq_none h'] at h1
  have set_on : ∀ {listed : Array Bool} {i : Nat}, listed.getD i true = false → ∀ j, (listed.setIfInBounds i true).getD j false = (j == i || listed.getD j false) := fun {listed i} h1 j => by
    by_cases hj : j = i
    · subst hj
      have := (getD_on h1).2
      simp [this]
    · rw [getD_set_ne false (Ne.symm hj)]; simp [hj]
  refine wp_region_any hm (wpAny_of_M (val := val) (V := fun _ => True) (Ag := fun listed => Ag (fun j => listed.getD j false)) (Cg := fun g => CN (F g)) (Tg := T) (nn := fun i => ns.contains i) ?_ ?_ ?_ ?_ ?_ ?_ _ _ _ _ g0 trivial ?_ ?_)
  · intro listed g; exact hrf _ g
  · intro listed g g' g'' h1 h2; exact htr _ _ _ _ h1 h2
  · intro listed i g g' h1 h2
    refine hmn _ i g g' (hAD _ _ _ _ (fun j _ => set_on h2 j) h1) (un h2)
  · intro listed i g g' hn h2 h1
    exact hvl _ i g g' (by simpa using hn) (un h2) (hAD _ _ _ _ (fun j _ => set_on h2 j) h1)
  · intro listed g g' W h1 h2; exact hag _ _ _ _ h1 h2
  · intro i s listed W g hn hs _ hr hW
    have hi : i ∈ ns := by simpa using hn
    have hun := (mem_ready.1 hr).1
    have hdp := List.all_eq_true.1 hnj i hi
    simp only [Bool.and_eq_true] at hdp
    have hdeps : ∀ j ∈ dep i, listed.getD j false = true := by
      obtain ⟨o, ho, _⟩ := (mem_ready.1 hr).2
      have h2 := hdp.2
      simp only [ho] at h2
      exact fun j hj => ready_after ho (List.all_eq_true.1 h2 j hj) hr
    have h3 := hT i s _ W g hi hs (un hun) hdeps hW
    refine uponN_mono (fun v W' ⟨g', e1, e2, e3⟩ => ⟨g', trivial, e1, e2, ?_⟩) h3
    exact hD g' _ _ _ (fun j _ => (set_on hun j).symm) e3
  · exact hD g0 _ _ _ (fun j _ => by have := hrep j; simpa using this.symm) hC
  · intro g _ _
    have e2 : ∀ w', CN (F g) (setAll l.length 0 (Array.replicate l.length false)) w' → F g (fun _ => true) w' := fun w' h' => hD g _ _ _ (fun j hj => by simpa using List.all_eq_true.1 hf j hj) h'
    have mono : ∀ (r : List Oper) (k : Nat) (a' : Act), wpM P .any l.toArray (CN (F g)) (fun i => ns.contains i) (val g) T (fun a' => ∀ w', F g (fun _ => true) w' → Q .normal a' w') r k a' → wpM P .any l.toArray (CN (F g)) (fun i => ns.contains i) (val g) T (fun a' => ∀ w', CN (F g) (setAll l.length 0 (Array.replicate l.length false)) w' → Q .normal a' w') r k a' := by
      intro r
      induction r with
      | nil => intro k a' h0 w' h'; exact h0 w' (e2 w' h')
      | cons o r ih => intro k a' h0; obtain ⟨v, h1, h2⟩ := h0; exact ⟨v, h1, ih _ _ h2⟩
    have := wpAnyM_lex (C := CN (F g)) (md := .any) (nn := fun i => ns.contains i) (x := val g) (T := T) (Q := fun listed a' => ∀ w', CN (F g) listed w' → Q .normal a' w') hB.1 l 0 (Array.replicate l.length false) a (by simp) (by simpa using hB.2) (mono _ _ _ (h g))
    simpa using this
end Go.Proofs.Ytgjpohhafmkhcaa
namespace Go.Proofs.Ytgjpohhafmkhcaa
open Go.RowKit L02 L13 L18 L20
theorem right_case {L : List Sl} {k : Nat} {s : Sl} {g r : Int} (hs : L[k]? = some s) (hr : r = rightErr L k g) : (s.used = false ∧ r = 28) ∨ (s.used = true ∧ (s.gen != g) = true ∧ r = 28) ∨ (s.used = true ∧ (s.gen != g) = false ∧ r = 0) := by
  have hk : k < L.length := (List.getElem?_eq_some_iff.1 hs).1
  have hgd : L.getD (k : Int).toNat .none = s := by simp [List.getD_eq_getElem?_getD, hs]
  have hrr : r = if s.used = true ∧ s.gen = g then 0 else 28 := by rw [hr, rightErr, if_pos (by omega), hgd]
  obtain ⟨gn, us, a⟩ := s
  dsimp only at *
  cases us
  · exact .inl ⟨rfl, by rw [hrr, if_neg (by simp)]⟩
  · by_cases hg : gn = g
    · exact .inr (.inr ⟨rfl, by rw [bne_eq_false_iff_eq]; exact hg, by rw [hrr, if_pos ⟨rfl, hg⟩]⟩)
    · exact .inr (.inl ⟨rfl, by rw [bne_iff_ne]; exact hg, by rw [hrr, if_neg (fun h => hg h.2)]⟩)
set_option maxRecDepth 100000 in
set_option maxHeartbeats 4000000 in
theorem find20_any (tv ov sv : Value) (m : Mo) (sl g : Int) (r : Int) (hr : r = rightErr m.slots sl g) (w : World) (h : Mod w tv ov sv m) :
    Calls Try.prog 43 #[.agg #[tv, ov, sv], .agg #[.int .i64 sl, .int .i64 g]] w fun e w' => e = .returned (.int .i64 r) ∧ Below w.heap.size w w' := by
  have B : Below w.heap.size w w := Below.refl _ _
  have ls := h.s.len
  obtain ⟨NS, hNS⟩ : ∃ N, N = m.slots.length := ⟨_, rfl⟩
  rw [← hNS] at ls
  by_cases hin : 0 ≤ sl ∧ sl < NS
  · obtain ⟨h0, h1⟩ := hin
    obtain ⟨k, rfl⟩ := Int.eq_ofNat_of_zero_le h0
    obtain ⟨b, o, s, ia, m0, m1, m2, hs⟩ := h.s.at_ (P := Try.prog) Try.underlying24 size_slot (k := k) (by omega)
    have hcase := right_case hs.out hr
    have n1 : ¬ (k : Int) < 0 := by omega
    have n2 : ¬ (NS : Int) ≤ (k : Int) := by omega
    have n3 : ¬ NS ≤ k := by omega
    obtain ⟨gn, us, a⟩ := s
    dsimp only at m0 m1 m2 hcase
    clear hr h hs hNS h0 h1
    rcases hcase with ⟨rfl, rfl⟩ | ⟨rfl, hne, rfl⟩ | ⟨rfl, hne, rfl⟩
    all_goals
      go_enter Try.func43, Try.ntmps43
      go_upto_region 1 with (fail)
      refine wp_gen (fun Wv => Bx Wv (w.heap.size) (26) (#[tv, ov, sv]) ∧ Bx Wv (w.heap.size + 1) (28) (#[.int .i64 k, .int .i64 g]) ∧ Below w.heap.size w Wv) ⟨(((Bx.at_ (by simp)).alloc _)), ((Bx.at_ (by simp))), (((Below.refl _ w).alloc (by simp <;> omega) _).alloc (by simp <;> omega) _)⟩ ?_
      rintro wa1 ⟨g1, g2, b⟩
      replace m0 := cell_later b m0; replace m1 := cell_later b m1; replace m2 := cell_later b m2; replace B := B.trans (b.mono B.size); clear b
      have c_g1 := g1.cell; have f_g1 := g1.free; have a_g1 := fun o => (g1.alloc o).cell; have d_g1 := fun o o2 => ((g1.alloc o).alloc o2).cell; have e_g1 := fun o => (g1.alloc o).free
      have c_g2 := g2.cell; have f_g2 := g2.free; have a_g2 := fun o => (g2.alloc o).cell; have d_g2 := fun o o2 => ((g2.alloc o).alloc o2).cell; have e_g2 := fun o => (g2.alloc o).free
      go_wp2
      go_ret
      refine ⟨rfl, ?_⟩
      (repeat (first | refine Below.setCell ?_ (by first | exact Nat.le_refl _ | (simp <;> omega)) _ | refine Below.alloc ?_ (by first | exact B.size | (have := B.size; simp <;> omega)) _)); exact B
  · have hr0 : r = 2 := by rw [hr, rightErr, if_neg (by omega)]
    clear hr h hNS
    subst hr0
    have hcase : sl < 0 ∨ ¬ sl < 0 ∧ (NS : Int) ≤ sl := by omega
    clear hin
    rcases hcase with h1 | ⟨h1, h2⟩
    all_goals
      go_enter Try.func43, Try.ntmps43
      go_upto_region 1 with (fail)
      refine wp_gen (fun Wv => Bx Wv (w.heap.size) (26) (#[tv, ov, sv]) ∧ Bx Wv (w.heap.size + 1) (28) (#[.int .i64 sl, .int .i64 g]) ∧ Below w.heap.size w Wv) ⟨(((Bx.at_ (by simp)).alloc _)), ((Bx.at_ (by simp))), (((Below.refl _ w).alloc (by simp <;> omega) _).alloc (by simp <;> omega) _)⟩ ?_
      rintro wa1 ⟨g1, g2, b⟩
      replace B := B.trans (b.mono B.size); clear b
      have c_g1 := g1.cell; have f_g1 := g1.free; have a_g1 := fun o => (g1.alloc o).cell; have d_g1 := fun o o2 => ((g1.alloc o).alloc o2).cell; have e_g1 := fun o => (g1.alloc o).free
      have c_g2 := g2.cell; have f_g2 := g2.free; have a_g2 := fun o => (g2.alloc o).cell; have d_g2 := fun o o2 => ((g2.alloc o).alloc o2).cell; have e_g2 := fun o => (g2.alloc o).free
      go_wp2
      go_ret
      exact ⟨rfl, B⟩
theorem enter_copied (x : Value) (W : World) : (callFunc 49 (#[] ++ #[x] ++ #[])).run Try.prog W = .ok (.enter 49 #[x]) W := by
  simp [go_sem]
structure GMod where
  t : Value
  o : Value
  s : Value
  W1 : World
def GMod.val (g : GMod) : Value := .agg #[g.t, g.o, g.s]
def wsC (w : World) (p : Nat) (g : GMod) : Nat → World
  | 0 => w.drew
  | 1 => g.W1
  | _ => ((g.W1.setCell ⟨p, 0, none⟩ g.t).setCell ⟨p, 1, none⟩ g.o).setCell ⟨p, 2, none⟩ g.s
set_option maxRecDepth 100000 in
set_option maxHeartbeats 4000000 in
theorem open20_no (tv ov sv : Value) (m : Mo) (sl g : Int) (r : Int) (hr : r = asked m sl g) (h0 : r ≠ 0) (w : World) (h : Mod w tv ov sv m) :
    Calls Try.prog 55 #[.agg #[tv, ov, sv], .agg #[.int .i64 sl, .int .i64 g]] w fun e w' => e = .returned (.tuple #[.agg #[.slice none 0 0, .slice none 0 0, .slice none 0 0], .int .i64 0, .int .i64 r]) ∧ Below w.heap.size w w' := by
  have B : Below w.heap.size w w := Below.refl _ _
  obtain ⟨c, hc⟩ : ∃ c, c = chk m := ⟨_, rfl⟩
  have CT := Lib.hid (fun w h => Check20_any tv ov sv m c hc w h)
  have H := Lib.hid h
  by_cases hc0 : c = 0
  · have hr1 : r = rightErr m.slots sl g := by rw [hr, asked_eq (by rw [← hc]; exact hc0)]
    have FT := Lib.hid (fun w h => find20_any tv ov sv m sl g r hr1 w h)
    have hne : (r != 0) = true := by rw [bne_iff_ne]; exact h0
    subst hc0
    clear hr hr1 h hc h0
    go_enter Try.func55, Try.ntmps55
    go_upto_region 1 with (fail)
    refine wp_gen (fun Wv => Bx Wv (w.heap.size) (26) (#[tv, ov, sv]) ∧ Bx Wv (w.heap.size + 1) (28) (#[.int .i64 sl, .int .i64 g]) ∧ Bx Wv (w.heap.size + 1 + 1) (26) (#[.slice none 0 0, .slice none 0 0, .slice none 0 0]) ∧ Below w.heap.size w Wv) ⟨((((Bx.at_ (by simp)).alloc _).alloc _)), (((Bx.at_ (by simp)).alloc _)), ((Bx.at_ (by simp))), ((((Below.refl _ w).alloc (by simp <;> omega) _).alloc (by simp <;> omega) _).alloc (by simp <;> omega) _)⟩ ?_
    rintro wa1 ⟨g1, g2, g3, b⟩
    replace B := B.trans (b.mono B.size); clear b
    have c_g1 := g1.cell; have f_g1 := g1.free; have a_g1 := fun o => (g1.alloc o).cell; have d_g1 := fun o o2 => ((g1.alloc o).alloc o2).cell; have e_g1 := fun o => (g1.alloc o).free
    have c_g2 := g2.cell; have f_g2 := g2.free; have a_g2 := fun o => (g2.alloc o).cell; have d_g2 := fun o o2 => ((g2.alloc o).alloc o2).cell; have e_g2 := fun o => (g2.alloc o).free
    have c_g3 := g3.cell; have f_g3 := g3.free; have a_g3 := fun o => (g3.alloc o).cell; have d_g3 := fun o o2 => ((g3.alloc o).alloc o2).cell; have e_g3 := fun o => (g3.alloc o).free
    go_wp2_with fail
    refine (CT.out _ (H.out.below B)).mono ?_
    rintro e wa2 ⟨rfl, b⟩
    try clear c_g1 f_g1 a_g1 d_g1 e_g1
    replace g1 := g1.below b; have c_g1 := g1.cell; have f_g1 := g1.free; have a_g1 := fun o => (g1.alloc o).cell; have d_g1 := fun o o2 => ((g1.alloc o).alloc o2).cell; have e_g1 := fun o => (g1.alloc o).free; try clear c_g2 f_g2 a_g2 d_g2 e_g2
    replace g2 := g2.below b; have c_g2 := g2.cell; have f_g2 := g2.free; have a_g2 := fun o => (g2.alloc o).cell; have d_g2 := fun o o2 => ((g2.alloc o).alloc o2).cell; have e_g2 := fun o => (g2.alloc o).free; try clear c_g3 f_g3 a_g3 d_g3 e_g3
    replace g3 := g3.below b; have c_g3 := g3.cell; have f_g3 := g3.free; have a_g3 := fun o => (g3.alloc o).cell; have d_g3 := fun o o2 => ((g3.alloc o).alloc o2).cell; have e_g3 := fun o => (g3.alloc o).free; replace B := B.trans (b.mono B.size); clear b
    go_wp2_with fail
    refine (FT.out _ (H.out.below B)).mono ?_
    rintro e wa3 ⟨rfl, b⟩
    try clear c_g1 f_g1 a_g1 d_g1 e_g1
    replace g1 := g1.below b; have c_g1 := g1.cell; have f_g1 := g1.free; have a_g1 := fun o => (g1.alloc o).cell; have d_g1 := fun o o2 => ((g1.alloc o).alloc o2).cell; have e_g1 := fun o => (g1.alloc o).free; try clear c_g2 f_g2 a_g2 d_g2 e_g2
    replace g2 := g2.below b; have c_g2 := g2.cell; have f_g2 := g2.free; have a_g2 := fun o => (g2.alloc o).cell; have d_g2 := fun o o2 => ((g2.alloc o).alloc o2).cell; have e_g2 := fun o => (g2.alloc o).free; try clear c_g3 f_g3 a_g3 d_g3 e_g3
    replace g3 := g3.below b; have c_g3 := g3.cell; have f_g3 := g3.free; have a_g3 := fun o => (g3.alloc o).cell; have d_g3 := fun o o2 => ((g3.alloc o).alloc o2).cell; have e_g3 := fun o => (g3.alloc o).free; replace B := B.trans (b.mono B.size); clear b
    go_wp2
    refine bodyPost_ret (v := .tuple #[.agg #[.slice none 0 0, .slice none 0 0, .slice none 0 0], .int .i64 0, .int .i64 r]) (by simp [results, Try.results55, go_sem, c_g1, f_g1, a_g1, e_g1, c_g2, f_g2, a_g2, e_g2, c_g3, f_g3, a_g3, e_g3]) rfl ?_
    refine ⟨rfl, ?_⟩
    (repeat (first | refine Below.setCell ?_ (by first | exact Nat.le_refl _ | (simp <;> omega)) _ | refine Below.alloc ?_ (by first | exact B.size | (have := B.size; simp <;> omega)) _)); exact B
  · have hr1 : r = c := by rw [hr, asked_no (by rw [← hc]; exact hc0), hc]
    have hne : (c != 0) = true := by rw [bne_iff_ne]; exact hc0
    subst hr1
    clear hr h hc h0 hc0
    go_enter Try.func55, Try.ntmps55
    go_upto_region 1 with (fail)
    refine wp_gen (fun Wv => Bx Wv (w.heap.size) (26) (#[tv, ov, sv]) ∧ Bx Wv (w.heap.size + 1) (28) (#[.int .i64 sl, .int .i64 g]) ∧ Bx Wv (w.heap.size + 1 + 1) (26) (#[.slice none 0 0, .slice none 0 0, .slice none 0 0]) ∧ Below w.heap.size w Wv) ⟨((((Bx.at_ (by simp)).alloc _).alloc _)), (((Bx.at_ (by simp)).alloc _)), ((Bx.at_ (by simp))), ((((Below.refl _ w).alloc (by simp <;> omega) _).alloc (by simp <;> omega) _).alloc (by simp <;> omega) _)⟩ ?_
    rintro wa1 ⟨g1, g2, g3, b⟩
    replace B := B.trans (b.mono B.size); clear b
    have c_g1 := g1.cell; have f_g1 := g1.free; have a_g1 := fun o => (g1.alloc o).cell; have d_g1 := fun o o2 => ((g1.alloc o).alloc o2).cell; have e_g1 := fun o => (g1.alloc o).free
    have c_g2 := g2.cell; have f_g2 := g2.free; have a_g2 := fun o => (g2.alloc o).cell; have d_g2 := fun o o2 => ((g2.alloc o).alloc o2).cell; have e_g2 := fun o => (g2.alloc o).free
    have c_g3 := g3.cell; have f_g3 := g3.free; have a_g3 := fun o => (g3.alloc o).cell; have d_g3 := fun o o2 => ((g3.alloc o).alloc o2).cell; have e_g3 := fun o => (g3.alloc o).free
    go_wp2_with fail
    refine (CT.out _ (H.out.below B)).mono ?_
    rintro e wa2 ⟨rfl, b⟩
    try clear c_g1 f_g1 a_g1 d_g1 e_g1
    replace g1 := g1.below b; have c_g1 := g1.cell; have f_g1 := g1.free; have a_g1 := fun o => (g1.alloc o).cell; have d_g1 := fun o o2 => ((g1.alloc o).alloc o2).cell; have e_g1 := fun o => (g1.alloc o).free; try clear c_g2 f_g2 a_g2 d_g2 e_g2
    replace g2 := g2.below b; have c_g2 := g2.cell; have f_g2 := g2.free; have a_g2 := fun o => (g2.alloc o).cell; have d_g2 := fun o o2 => ((g2.alloc o).alloc o2).cell; have e_g2 := fun o => (g2.alloc o).free; try clear c_g3 f_g3 a_g3 d_g3 e_g3
    replace g3 := g3.below b; have c_g3 := g3.cell; have f_g3 := g3.free; have a_g3 := fun o => (g3.alloc o).cell; have d_g3 := fun o o2 => ((g3.alloc o).alloc o2).cell; have e_g3 := fun o => (g3.alloc o).free; replace B := B.trans (b.mono B.size); clear b
    go_wp2
    refine bodyPost_ret (v := .tuple #[.agg #[.slice none 0 0, .slice none 0 0, .slice none 0 0], .int .i64 0, .int .i64 r]) (by simp [results, Try.results55, go_sem, c_g1, f_g1, a_g1, e_g1, c_g2, f_g2, a_g2, e_g2, c_g3, f_g3, a_g3, e_g3]) rfl ?_
    refine ⟨rfl, ?_⟩
    (repeat (first | refine Below.setCell ?_ (by first | exact Nat.le_refl _ | (simp <;> omega)) _ | refine Below.alloc ?_ (by first | exact B.size | (have := B.size; simp <;> omega)) _)); exact B
theorem OwnM.forms {w : World} {B E : Nat} {tv ov sv : Value} {m : Mo} (h : OwnM w B E tv ov sv m) : (∃ A n c, tv = .slice A n c) ∧ (∃ A n c, ov = .slice A n c) ∧ ∃ A n c, sv = .slice A n c := by
  obtain ⟨⟨_, _, z2, _⟩, ⟨_, _, y2, _⟩, s⟩ := h
  obtain ⟨A, c, e⟩ := own_form' z2; obtain ⟨A', c', e'⟩ := own_form' y2; obtain ⟨A'', c'', e''⟩ := own_form' s
  exact ⟨⟨A, _, c, e⟩, ⟨A', _, c', e'⟩, ⟨A'', _, c'', e''⟩⟩
set_option maxRecDepth 100000 in
set_option maxHeartbeats 4000000 in
theorem open20_ok (tv ov sv : Value) (m : Mo) (sl g : Int) (n : Nat) (h0 : asked m sl g = 0) (hn : own m sl = n) (w : World) (h : Mod w tv ov sv m) :
    Calls Try.prog 55 #[.agg #[tv, ov, sv], .agg #[.int .i64 sl, .int .i64 g]] w fun e w' => ∃ tv' ov' sv', e = .returned (.tuple #[.agg #[tv', ov', sv'], .int .i64 n, .int .i64 0]) ∧ OwnM w' w.heap.size 67 tv' ov' sv' m ∧ Below w.heap.size w w' := by
  have B : Below w.heap.size w w := Below.refl _ _
  obtain ⟨c0, hr0, k, s, n', o, t, hk, hk16, hs, hu, hg, hso, hat, hown, _⟩ := asked_ok h0
  obtain rfl : n' = n := by rw [← hown, hn]
  subst hk
  have CT := Lib.hid (fun w h => Check20_any tv ov sv m 0 c0.symm w h)
  have FT := Lib.hid (fun w h => find20_any tv ov sv m k g 0 hr0.symm w h)
  have CP := Lib.hid (fun w h => copied_any tv ov sv m (small_chk c0) w h)
  have hkl : k < m.slots.length := (List.getElem?_eq_some_iff.1 hs).1
  obtain ⟨b, q, s', ia, m0, m1, m2, hs'⟩ := h.s.at_ (P := Try.prog) Try.underlying24 size_slot hkl
  obtain rfl : s' = s := by have := hs'.out; rw [hs] at this; injection this with this; exact this.symm
  rw [hat] at m2
  have H := Lib.hid h
  clear h0 hr0 hs hs' hu hg hso hat hown hn c0 h m0 m1 hkl
  go_enter Try.func55, Try.ntmps55
  go_upto_region 1 with (fail)
  refine wp_gen (fun Wv => Bx Wv (w.heap.size) (26) (#[tv, ov, sv]) ∧ Bx Wv (w.heap.size + 1) (28) (#[.int .i64 k, .int .i64 g]) ∧ Bx Wv (w.heap.size + 1 + 1) (26) (#[.slice none 0 0, .slice none 0 0, .slice none 0 0]) ∧ Below w.heap.size w Wv) ⟨((((Bx.at_ (by simp)).alloc _).alloc _)), (((Bx.at_ (by simp)).alloc _)), ((Bx.at_ (by simp))), ((((Below.refl _ w).alloc (by simp <;> omega) _).alloc (by simp <;> omega) _).alloc (by simp <;> omega) _)⟩ ?_
  rintro wa1 ⟨g1, g2, g3, b⟩
  replace B := B.trans (b.mono B.size); clear b
  have c_g1 := g1.cell; have f_g1 := g1.free; have a_g1 := fun o => (g1.alloc o).cell; have d_g1 := fun o o2 => ((g1.alloc o).alloc o2).cell; have e_g1 := fun o => (g1.alloc o).free
  have c_g2 := g2.cell; have f_g2 := g2.free; have a_g2 := fun o => (g2.alloc o).cell; have d_g2 := fun o o2 => ((g2.alloc o).alloc o2).cell; have e_g2 := fun o => (g2.alloc o).free
  have c_g3 := g3.cell; have f_g3 := g3.free; have a_g3 := fun o => (g3.alloc o).cell; have d_g3 := fun o o2 => ((g3.alloc o).alloc o2).cell; have e_g3 := fun o => (g3.alloc o).free
  go_wp2_with fail
  refine (CT.out _ (H.out.below B)).mono ?_
  rintro e wa2 ⟨rfl, b⟩
  try clear c_g1 f_g1 a_g1 d_g1 e_g1
  replace g1 := g1.below b; have c_g1 := g1.cell; have f_g1 := g1.free; have a_g1 := fun o => (g1.alloc o).cell; have d_g1 := fun o o2 => ((g1.alloc o).alloc o2).cell; have e_g1 := fun o => (g1.alloc o).free; try clear c_g2 f_g2 a_g2 d_g2 e_g2
  replace g2 := g2.below b; have c_g2 := g2.cell; have f_g2 := g2.free; have a_g2 := fun o => (g2.alloc o).cell; have d_g2 := fun o o2 => ((g2.alloc o).alloc o2).cell; have e_g2 := fun o => (g2.alloc o).free; try clear c_g3 f_g3 a_g3 d_g3 e_g3
  replace g3 := g3.below b; have c_g3 := g3.cell; have f_g3 := g3.free; have a_g3 := fun o => (g3.alloc o).cell; have d_g3 := fun o o2 => ((g3.alloc o).alloc o2).cell; have e_g3 := fun o => (g3.alloc o).free; replace B := B.trans (b.mono B.size); clear b
  go_wp2_with fail
  refine (FT.out _ (H.out.below B)).mono ?_
  rintro e wa3 ⟨rfl, b⟩
  try clear c_g1 f_g1 a_g1 d_g1 e_g1
  replace g1 := g1.below b; have c_g1 := g1.cell; have f_g1 := g1.free; have a_g1 := fun o => (g1.alloc o).cell; have d_g1 := fun o o2 => ((g1.alloc o).alloc o2).cell; have e_g1 := fun o => (g1.alloc o).free; try clear c_g2 f_g2 a_g2 d_g2 e_g2
  replace g2 := g2.below b; have c_g2 := g2.cell; have f_g2 := g2.free; have a_g2 := fun o => (g2.alloc o).cell; have d_g2 := fun o o2 => ((g2.alloc o).alloc o2).cell; have e_g2 := fun o => (g2.alloc o).free; try clear c_g3 f_g3 a_g3 d_g3 e_g3
  replace g3 := g3.below b; have c_g3 := g3.cell; have f_g3 := g3.free; have a_g3 := fun o => (g3.alloc o).cell; have d_g3 := fun o o2 => ((g3.alloc o).alloc o2).cell; have e_g3 := fun o => (g3.alloc o).free; replace B := B.trans (b.mono B.size); clear b
  go_upto_region 7 with (fail)
  have HG := Lib.hid (And.intro g1 (And.intro g2 (And.intro g3 B)))
  have hB := B.size
  clear c_g1 c_g2 f_g1 f_g2 a_g1 a_g2 d_g1 d_g2 e_g1 e_g2 c_g3 f_g3 a_g3 d_g3 e_g3
  refine wp_region_G (val := GMod.val) (V := fun g => OwnM g.W1 wa3.heap.size 67 g.t g.o g.s m ∧ Below wa3.heap.size wa3 g.W1)
    (F := fun g => FL [1, 9] (wsC wa3 (w.heap.size + 1 + 1) g) 1 2) [1, 1, 9] 1 ⟨undef, undef, undef, wa3⟩ 49 #[.agg #[tv, ov, sv]] (fun g => FL.dep) (by kernel_rfl) (by kernel_rfl) (by kernel_rfl) (fun g g' φ W hφ hF => FL.agree (Ws := wsC wa3 (w.heap.size + 1 + 1) g) (Ws' := wsC wa3 (w.heap.size + 1 + 1) g') (k0 := 1) rfl rfl hφ hF) FL.start (by decide) ?_ ?_
  · intro φ W hφ hF
    obtain ⟨rfl, _⟩ := FL.step (i := 0) rfl (by decide) hF hφ (by intro p hp; omega) (by omega)
    refine (CP.out wa3.drew (H.out.below B.drew)).mono ?_
    rintro e W1 ⟨t', o', s', rfl, om, b1⟩
    have b1' : Below wa3.heap.size wa3 W1 := (Below.refl _ wa3).drew.trans b1
    have hF' := FL.agree (Ws := wsC wa3 (w.heap.size + 1 + 1) ⟨undef, undef, undef, wa3⟩) (Ws' := wsC wa3 (w.heap.size + 1 + 1) ⟨t', o', s', W1⟩) (k0 := 1) rfl rfl hφ hF
    exact ⟨⟨t', o', s', W1⟩, ⟨om, b1'⟩, rfl, (FL.step (i := 0) rfl (by decide) hF' hφ (by intro p hp; omega) (by omega)).2⟩
  · rintro ⟨t', o', s', W1⟩ ⟨om, b1⟩
    dsimp only at om b1 ⊢
    obtain ⟨⟨tA, tn, tc, rfl⟩, ⟨oA, on, oc, rfl⟩, ⟨sA, sn, sc, rfl⟩⟩ := om.forms
    have r3 := g3.below b1
    have AL : ∀ d, d ≤ 2 → Below w.heap.size w (wsC wa3 (w.heap.size + 1 + 1) ⟨.slice tA tn tc, .slice oA on oc, .slice sA sn sc, W1⟩ d) ∧ Bx (wsC wa3 (w.heap.size + 1 + 1) ⟨.slice tA tn tc, .slice oA on oc, .slice sA sn sc, W1⟩ d) w.heap.size 26 #[tv, ov, sv] ∧ Bx (wsC wa3 (w.heap.size + 1 + 1) ⟨.slice tA tn tc, .slice oA on oc, .slice sA sn sc, W1⟩ d) (w.heap.size + 1) 28 #[.int .i64 k, .int .i64 g] := by
      intro d hd
      rcases d with _ | _ | d
      · exact ⟨B.drew, g1, g2⟩
      · exact ⟨B.trans (b1.mono hB), g1.below b1, g2.below b1⟩
      · refine ⟨?_, ?_, ?_⟩
        · exact (((B.trans (b1.mono hB)).setCell (p := ⟨w.heap.size + 1 + 1, 0, none⟩) (by simp; omega) _).setCell (p := ⟨w.heap.size + 1 + 1, 1, none⟩) (by simp; omega) _).setCell (p := ⟨w.heap.size + 1 + 1, 2, none⟩) (by simp; omega) _
        · exact (((g1.below b1).far (p := ⟨w.heap.size + 1 + 1, 0, none⟩) (by show _ ≠ w.heap.size + 1 + 1; omega) _).far (p := ⟨w.heap.size + 1 + 1, 1, none⟩) (by show _ ≠ w.heap.size + 1 + 1; omega) _).far (p := ⟨w.heap.size + 1 + 1, 2, none⟩) (by show _ ≠ w.heap.size + 1 + 1; omega) _
        · exact (((g2.below b1).far (p := ⟨w.heap.size + 1 + 1, 0, none⟩) (by show _ ≠ w.heap.size + 1 + 1; omega) _).far (p := ⟨w.heap.size + 1 + 1, 1, none⟩) (by show _ ≠ w.heap.size + 1 + 1; omega) _).far (p := ⟨w.heap.size + 1 + 1, 2, none⟩) (by show _ ≠ w.heap.size + 1 + 1; omega) _
    have AA := Lib.hid (fun x : FXN (FL [1, 9] (wsC wa3 (w.heap.size + 1 + 1) ⟨.slice tA tn tc, .slice oA on oc, .slice sA sn sc, W1⟩) 1 2) => FL.all (ks := [1, 9]) (Ws := wsC wa3 (w.heap.size + 1 + 1) ⟨.slice tA tn tc, .slice oA on oc, .slice sA sn sc, W1⟩) (p := fun W => Below w.heap.size w W ∧ Bx W w.heap.size 26 #[tv, ov, sv] ∧ Bx W (w.heap.size + 1) 28 #[.int .i64 k, .int .i64 g]) AL x)
    have ca := fun x : FXN (FL [1, 9] (wsC wa3 (w.heap.size + 1 + 1) ⟨.slice tA tn tc, .slice oA on oc, .slice sA sn sc, W1⟩) 1 2) => (AA.out x).2.1.cell
    have cb := fun x : FXN (FL [1, 9] (wsC wa3 (w.heap.size + 1 + 1) ⟨.slice tA tn tc, .slice oA on oc, .slice sA sn sc, W1⟩) 1 2) => (AA.out x).2.2.cell
    have cc := fun x : FXN (FL [1, 9] (wsC wa3 (w.heap.size + 1 + 1) ⟨.slice tA tn tc, .slice oA on oc, .slice sA sn sc, W1⟩) 1 2) => cell_later (AA.out x).1 m2
    haveI : Nonempty (FXN (FL [1, 9] (wsC wa3 (w.heap.size + 1 + 1) ⟨.slice tA tn tc, .slice oA on oc, .slice sA sn sc, W1⟩) 1 2)) := ⟨⟨_, _, FL.start⟩⟩
    refine wpG_read FL.dep rfl (by decide) (by decide) ?_; go_big_quiet_step (fail); refine wpQuiet_nil ?_
    refine wpG_call #[.agg #[tv, ov, sv]] rfl (by simp [Act.eval]) (enter_copied _) ?_
    simp only [Act.put, List.setIfInBounds_toArray, List.set_cons_zero, List.set_cons_succ]
    iterate 7 (refine wpG_read FL.dep rfl (by decide) (by decide) ?_; go_big_quiet_step (fail); refine wpQuiet_nil ?_)
    have c3 := r3.cell; have f3 := r3.free
    refine wpG_store FL.dep (by decide) rfl 26 (.tmp 4) (.tmp 23) rfl (by rfl) (p := .pointer (some ⟨w.heap.size + 1 + 1, 0, none⟩)) (u := .agg #[.slice tA tn tc, .slice oA on oc, .slice sA sn sc]) (by rfl) (by rfl) [1] (by kernel_rfl) (fun f W hF h0 h1 => ?_) ?_
    · obtain ⟨rfl, h2⟩ := FL.step (i := 1) rfl (by decide) hF h0 (FL.prev (p := 0) (q := 1) rfl (h1 1 (by simp))) (by omega)
      refine ⟨_, ?_, h2⟩
      simp [go_sem, wsC, c3, f3]
    simp only [Act.put, List.setIfInBounds_toArray, List.set_cons_zero, List.set_cons_succ]
    iterate 2 (refine wpG_read FL.dep rfl (by decide) (by decide) ?_; go_big_quiet_step (fail); refine wpQuiet_nil ?_)
    refine wpG_nil ?_
    intro w' hw'
    obtain rfl := FL.done hw'
    have HM := Lib.hid (OwnM.set3 (a := .slice tA tn tc) (b := .slice oA on oc) (c := .slice sA sn sc) (om.mono hB) r3)
    have BB := Lib.hid (AL 2 (Nat.le_refl _)).1
    have g3' : Bx ((((W1.setCell ⟨w.heap.size + 1 + 1, 0, none⟩ (.slice tA tn tc)).setCell ⟨w.heap.size + 1 + 1, 1, none⟩ (.slice oA on oc)).setCell ⟨w.heap.size + 1 + 1, 2, none⟩ (.slice sA sn sc))) (w.heap.size + 1 + 1) 26 #[.slice tA tn tc, .slice oA on oc, .slice sA sn sc] := by
      have := ((r3.set (i := 0) (.slice tA tn tc)).set (i := 1) (.slice oA on oc)).set (i := 2) (.slice sA sn sc)
      simpa using this
    have c3' := g3'.cell
    clear this ca cb cc c3 f3 AL AA om b1 g1 g2 g3 B r3 hw'
    show _
    generalize hW : (((W1.setCell ⟨w.heap.size + 1 + 1, 0, none⟩ (.slice tA tn tc)).setCell ⟨w.heap.size + 1 + 1, 1, none⟩ (.slice oA on oc)).setCell ⟨w.heap.size + 1 + 1, 2, none⟩ (.slice sA sn sc)) = W4 at c3' HM
    have hw4 : wsC wa3 (w.heap.size + 1 + 1) ⟨.slice tA tn tc, .slice oA on oc, .slice sA sn sc, W1⟩ [1, 9].length = W4 := hW
    rw [hw4]
    have BB2 := BB.out
    rw [show wsC wa3 (w.heap.size + 1 + 1) ⟨.slice tA tn tc, .slice oA on oc, .slice sA sn sc, W1⟩ 2 = W4 from hW] at BB2
    have BB3 := Lib.hid BB2
    clear hW hw4 BB BB2 g3'
    go_wp2
    refine bodyPost_ret (v := .tuple #[.agg #[.slice tA tn tc, .slice oA on oc, .slice sA sn sc], .int .i64 n', .int .i64 0]) (by simp [results, Try.results55, go_sem, c3']) rfl ?_
    exact ⟨_, _, _, rfl, HM.out, BB3.out⟩
end Go.Proofs.Ytgjpohhafmkhcaa
namespace Go.Proofs.Ytgjpohhafmkhcaa.L18
open L02
theorem nextFrom_some : ∀ {L : List Sl} {j k : Nat}, nextFrom L j = some k → j ≤ k ∧ (∃ s, L[k - j]? = some s ∧ s.used = false ∧ s.gen ≠ 2147483647) ∧ ∀ i s, i < k - j → L[i]? = some s → ¬ (s.used = false ∧ s.gen ≠ 2147483647)
  | [], _, _, h => by cases h
  | s :: L, j, k, h => by
    rw [nextFrom] at h
    split at h
    · rename_i h2
      injection h with h
      subst h
      exact ⟨Nat.le_refl _, ⟨s, by simp, h2⟩, fun i t hi => by omega⟩
    · rename_i h2
      obtain ⟨h1, ⟨t, h3, h4⟩, h5⟩ := nextFrom_some h
      refine ⟨by omega, ⟨t, by rw [show k - j = (k - (j + 1)) + 1 by omega, List.getElem?_cons_succ]; exact h3, h4⟩, fun i u hi hu => ?_⟩
      cases i with
      | zero => simp at hu; subst hu; exact h2
      | succ i => exact h5 i u (by omega) (by simpa using hu)
end Go.Proofs.Ytgjpohhafmkhcaa.L18
namespace Go.Proofs.Ytgjpohhafmkhcaa
open Go.RowKit L02 L13 L18 L20
theorem tabL_set (S : List Sl) (k : Nat) (s : Sl) (hk : k < S.length) : (((tabL S).set (k * 3) (.int .i64 s.gen)).set (k * 3 + 1) (.bool s.used)).set (k * 3 + 2) (.int .i64 s.at_) = tabL (S.set k s) := by
  apply List.ext_getElem?
  intro i
  by_cases hi : i < S.length * 3
  · obtain ⟨q, r, hr, rfl⟩ : ∃ q r, r < 3 ∧ i = q * 3 + r := ⟨i / 3, i % 3, Nat.mod_lt _ (by omega), by omega⟩
    have hq : q < S.length := by omega
    by_cases hqk : q = k
    · subst hqk
      have h1 := tabL_get (S.set q s) q s (by simp [hq]) r hr
      rw [h1]
      have hl : (tabL S).length = S.length * 3 := tabL_len S
      have : r = 0 ∨ r = 1 ∨ r = 2 := by omega
      rcases this with rfl | rfl | rfl
      · rw [List.getElem?_set_ne (by omega), List.getElem?_set_ne (by omega), Nat.add_zero, List.getElem?_set_self (by omega)]; rfl
      · rw [List.getElem?_set_ne (by omega), List.getElem?_set_self (by simp; omega)]; rfl
      · rw [List.getElem?_set_self (by simp; omega)]; rfl
    · have hs : S[q]? = some S[q] := List.getElem?_eq_getElem hq
      have h1 := tabL_get (S.set k s) q S[q] (by rw [List.getElem?_set_ne (Ne.symm hqk)]; exact hs) r hr
      have h2 := tabL_get S q S[q] hs r hr
      rw [h1, List.getElem?_set_ne (by omega), List.getElem?_set_ne (by omega), List.getElem?_set_ne (by omega), h2]
  · rw [List.getElem?_eq_none (by simp [tabL_len]; omega), List.getElem?_eq_none (by simp [tabL_len]; omega)]
/-- one slot is stored -/
theorem OwnS.put3 {w : World} {B E g n c k : Nat} {S : List Sl} (h : OwnS w B E (.slice (some ⟨g, 0, none⟩) n c) S) (hk : k < S.length) (s : Sl) :
    OwnS (((w.setCell ⟨g, k * 3, none⟩ (.int .i64 s.gen)).setCell ⟨g, k * 3 + 1, none⟩ (.bool s.used)).setCell ⟨g, k * 3 + 2, none⟩ (.int .i64 s.at_)) B E (.slice (some ⟨g, 0, none⟩) n c) (S.set k s) ∧
      w.grownBy (((w.setCell ⟨g, k * 3, none⟩ (.int .i64 s.gen)).setCell ⟨g, k * 3 + 1, none⟩ (.bool s.used)).setCell ⟨g, k * 3 + 2, none⟩ (.int .i64 s.at_)) (some g) ∧ B ≤ g ∧ g < w.heap.size ∧ ∀ j, w.frozen? ⟨g, j, none⟩ = false := by
  have hn : n = S.length := by
    obtain ⟨g', cap, cur, hv, _⟩ := own_form h (by omega)
    injection hv
  subst hn
  have h1 := World.ownsRow.stored h (k * 3) (.int .i64 s.gen)
  have h2 := World.ownsRow.stored h1.1 (k * 3 + 1) (.bool s.used)
  have h3 := World.ownsRow.stored h2.1 (k * 3 + 2) (.int .i64 s.at_)
  have hl := h.lt g rfl
  refine ⟨?_, ⟨rfl, rfl, rfl, ?_, fun q hq hne => ?_⟩, hl.1, hl.2, fun j => h.frozenAt j⟩
  · unfold OwnS
    rw [← tabL_set S k s hk, List.length_set]
    exact h3.1
  · simp [World.setCell]
  · exact (h3.2.block q (by simpa [World.setCell] using hq) hne).trans ((h2.2.block q (by simpa [World.setCell] using hq) hne).trans (h1.2.block q hq hne))
theorem OwnS.form {w : World} {B E : Nat} {v : Value} {S : List Sl} (h : OwnS w B E v S) (hn : 0 < S.length) : ∃ g n c, v = .slice (some ⟨g, 0, none⟩) n c ∧ n = S.length := by
  obtain ⟨g, cap, cur, hv, _⟩ := own_form h hn
  exact ⟨g, _, cap, hv, rfl⟩
theorem OwnS.cells {w : World} {B E g n c k : Nat} {S : List Sl} {s : Sl} (h : OwnS w B E (.slice (some ⟨g, 0, none⟩) n c) S) (hs : S[k]? = some s) :
    (∀ W, (Instr.indexAt 24 (.slice (some ⟨g, 0, none⟩) n c) (.int .i64 (k : Int))).run Try.prog W = .ok (.pointer (some ⟨g, k * 3, none⟩)) W) ∧ w.cell? ⟨g, k * 3, none⟩ = some (.int .i64 s.gen) ∧ w.cell? ⟨g, k * 3 + 1, none⟩ = some (.bool s.used) ∧ w.cell? ⟨g, k * 3 + 2, none⟩ = some (.int .i64 s.at_) := by
  have hk : k < S.length := (List.getElem?_eq_some_iff.1 hs).1
  have t0 := Rd.cell (OwnS.rd h) (tabL_get S k s hs 0 (by omega))
  have t1 := Rd.cell (OwnS.rd h) (tabL_get S k s hs 1 (by omega))
  have t2 := Rd.cell (OwnS.rd h) (tabL_get S k s hs 2 (by omega))
  refine ⟨fun W => ?_, ?_, ?_, ?_⟩
  · have := Rd.ixN (P := Try.prog) (OwnS.rd h) Try.underlying24 size_slot hk W
    simpa [cellAt] using this
  · simpa [cellAt] using t0
  · simpa [cellAt] using t1
  · simpa [cellAt] using t2
/-- a model's own slots changed, all else kept -/
theorem OwnM.slots {w W : World} {B g n c : Nat} {tv ov : Value} {m : Mo} {S : List Sl} (h : OwnM w B 67 tv ov (.slice (some ⟨g, 0, none⟩) n c) m) (hg : w.grownBy W (some g)) (hS : OwnS W B 67 (.slice (some ⟨g, 0, none⟩) n c) S) :
    OwnM W B 67 tv ov (.slice (some ⟨g, 0, none⟩) n c) ⟨m.types, m.objs, S⟩ := by
  refine ⟨OwnT.kept h.t h.s hg (by decide) (by decide), ?_, hS⟩
  obtain ⟨vs, a1, a2, a4, a5⟩ := h.o
  exact ⟨vs, a1, World.ownsRow.kept a2 hg (own_unlike a2 h.s (by decide)), fun i x l h5 h6 => World.ownsRow.kept (a4 i x l h5 h6) hg (own_unlike (a4 i x l h5 h6) h.s (by decide)), a5⟩
/-- all old blocks but one are as they were -/
def Keep (w w' : World) (row : Option Nat) : Prop := w.heap.size ≤ w'.heap.size ∧ ∀ k, k < w.heap.size → some k ≠ row → w'.heap[k]? = w.heap[k]?
theorem Keep.of_below {w w' : World} {row : Option Nat} (h : Below w.heap.size w w') : Keep w w' row := ⟨h.size, fun k hk _ => h.block k hk⟩
theorem Keep.grown {w w' w'' : World} {row : Option Nat} (h : Keep w w' row) (hg : w'.grownBy w'' row) : Keep w w'' row := ⟨Nat.le_trans h.1 hg.size, fun k hk hr => (hg.block k (Nat.lt_of_lt_of_le hk h.1) hr).trans (h.2 k hk hr)⟩
theorem Keep.setCell {w w' : World} {row : Option Nat} (h : Keep w w' row) {p : Addr} (hp : w.heap.size ≤ p.block) (u : Value) : Keep w (w'.setCell p u) row :=
  ⟨by simpa [World.setCell] using h.1, fun k hk hr => (Below.heap_setCell w' p u k (by omega)).trans (h.2 k hk hr)⟩
theorem Bx.keep {w w' : World} {g : Nat} {t : TypeId} {cs : Array Value} {row : Option Nat} (h : Bx w g t cs) (hk : Keep w w' row) (hne : row = none ∨ row ≠ some g) : Bx w' g t cs := by
  have hl := h.lt
  unfold Bx at *
  rw [hk.2 g hl (by rcases hne with rfl | h; · simp
                    · exact fun e => h e.symm)]
  exact h
theorem OwnM.setH {w : World} {B p i : Nat} {tv ov sv u : Value} {m : Mo} {cs : Array Value} (h : OwnM w B 67 tv ov sv m) (hg : Bx w p 28 cs) : OwnM (w.setCell ⟨p, i, none⟩ u) B 67 tv ov sv m :=
  ⟨h.t.set hg (by decide) (by decide), h.o.set hg (by decide) (by decide), own_set h.s hg (by decide)⟩
set_option maxRecDepth 100000 in
set_option maxHeartbeats 4000000 in
theorem handle_ok (tv ov sv : Value) (m : Mo) (n : Int) (kk : Nat) (s : Sl) (hnx : next m.slots = some kk) (hs : m.slots[kk]? = some s) (hgen : ∀ s ∈ m.slots, 0 ≤ s.gen ∧ s.gen ≤ 2147483647) (hlen : m.slots.length = 16) (B0 : Nat) (w : World) (h : OwnM w B0 67 tv ov sv m) (hB : B0 ≤ w.heap.size) :
    Calls Try.prog 44 #[.agg #[tv, ov, sv], .int .i64 n] w fun e w' => e = .returned (.tuple #[.agg #[.int .i64 kk, .int .i64 (s.gen + 1)], .bool true]) ∧ OwnM w' B0 67 tv ov sv ⟨m.types, m.objs, m.slots.set kk ⟨s.gen + 1, true, n⟩⟩ ∧ Below B0 w w' ∧ Keep w w' sv.ownBlock := by
  have B : Below w.heap.size w w := Below.refl _ _
  obtain ⟨gS, sc, rfl⟩ : ∃ g c, sv = .slice (some ⟨g, 0, none⟩) 16 c := by obtain ⟨g, n, c, e, e2⟩ := h.s.form (by omega); rw [e2, hlen] at e; exact ⟨g, c, e⟩
  have ls := h.rd.s.len
  rw [hlen] at ls
  obtain ⟨_, ⟨s', hs', hu, hg1⟩, hbefore⟩ := nextFrom_some hnx
  rw [Nat.sub_zero] at hs' hbefore
  obtain rfl : s' = s := by rw [hs] at hs'; injection hs' with e; exact e.symm
  have hkk : kk < 16 := by have := (List.getElem?_eq_some_iff.1 hs).1; omega
  have hg2 := hgen s' (List.mem_of_getElem? hs)
  have H := Lib.hid h; have HS := Lib.hid hs; have HBF := Lib.hid hbefore; have HL := Lib.hid hlen; have HGEN := Lib.hid hgen
  have hmx : s'.gen < 2147483647 := by omega
  obtain ⟨gn, us, sa⟩ := s'
  dsimp only at hu hmx hg2 ⊢
  subst hu
  have hwr : IntKind.i64.wrap (gn + 1) = gn + 1 := IntWalk.i64_in _ (by omega)
  clear hs hs' hbefore hnx hgen hg1
  go_enter Try.func44, Try.ntmps44
  go_upto_region 1 with (fail)
  refine wp_gen (fun Wv => Bx Wv (w.heap.size) (26) (#[tv, ov, .slice (some ⟨gS, 0, none⟩) 16 sc]) ∧ Bx Wv (w.heap.size + 1) (28) (#[.int .i64 0, .int .i64 0]) ∧ Below w.heap.size w Wv) ⟨(((Bx.at_ (by simp)).alloc _)), ((Bx.at_ (by simp))), (((Below.refl _ w).alloc (by simp <;> omega) _).alloc (by simp <;> omega) _)⟩ ?_
  rintro wa1 ⟨g1, g2, b⟩
  replace B := B.trans (b.mono B.size); clear b
  have c_g1 := g1.cell; have f_g1 := g1.free; have a_g1 := fun o => (g1.alloc o).cell; have d_g1 := fun o o2 => ((g1.alloc o).alloc o2).cell; have e_g1 := fun o => (g1.alloc o).free
  have c_g2 := g2.cell; have f_g2 := g2.free; have a_g2 := fun o => (g2.alloc o).cell; have d_g2 := fun o o2 => ((g2.alloc o).alloc o2).cell; have e_g2 := fun o => (g2.alloc o).free
  have HG := Lib.hid (And.intro g1 (And.intro g2 B))
  clear g1 g2 B c_g1 c_g2 f_g1 f_g2 a_g1 a_g2 d_g1 d_g2 e_g1 e_g2
  have hwa := HG.out.1.cell
  go_wp2
  clear hwa
  go_loopg [11] kk (fun g i wr => ∃ j : Nat, j ≤ kk ∧ g = kk - j ∧ i = .int .i64 j ∧ Hid (Bx wr w.heap.size 26 #[tv, ov, .slice (some ⟨gS, 0, none⟩) 16 sc] ∧ Bx wr (w.heap.size + 1) 28 #[.int .i64 0, .int .i64 0] ∧ Below w.heap.size w wr))
  case atStart => exact ⟨0, by omega, by omega, rfl, HG⟩
  case round =>
    clear HG
    obtain ⟨j, hj, rfl, rfl, hh⟩ := hrel
    obtain ⟨g1, g2, B⟩ := hh.out
    have hj16 : j < 16 := by omega
    have hx : m.slots[j]? = some (m.slots[j]'(by have := HL.out; omega)) := List.getElem?_eq_getElem _
    obtain ⟨x, hxx⟩ : ∃ x, x = m.slots[j]'(by have := HL.out; omega) := ⟨_, rfl⟩
    rw [← hxx] at hx; clear hxx
    obtain ⟨ix, m0, m1, m2⟩ := OwnS.cells (H.out.s.below B) hx
    have HX := Lib.hid hx; clear hx hh
    obtain ⟨xg, xu, xa⟩ := x
    dsimp only at m0 m1 m2
    have hzr := B.size
    go_upto_region 4 with (fail)
    refine wp_gen (fun Wv => Bx Wv (wr.heap.size) (67) (#[.int .i64 xg, .bool xu, .int .i64 xa]) ∧ Below wr.heap.size wr Wv) ⟨((Bx.at_ (by simp))), ((Below.refl _ wr).alloc (by simp <;> omega) _)⟩ ?_
    rintro wa1 ⟨g3, b⟩
    try clear c_g1 f_g1 a_g1 d_g1 e_g1
    replace g1 := g1.below b; have c_g1 := g1.cell; have f_g1 := g1.free; have a_g1 := fun o => (g1.alloc o).cell; have d_g1 := fun o o2 => ((g1.alloc o).alloc o2).cell; have e_g1 := fun o => (g1.alloc o).free; try clear c_g2 f_g2 a_g2 d_g2 e_g2
    replace g2 := g2.below b; have c_g2 := g2.cell; have f_g2 := g2.free; have a_g2 := fun o => (g2.alloc o).cell; have d_g2 := fun o o2 => ((g2.alloc o).alloc o2).cell; have e_g2 := fun o => (g2.alloc o).free; replace B := B.trans (b.mono B.size); clear b
    have c_g3 := g3.cell; have f_g3 := g3.free; have a_g3 := fun o => (g3.alloc o).cell; have d_g3 := fun o o2 => ((g3.alloc o).alloc o2).cell; have e_g3 := fun o => (g3.alloc o).free
    clear m0 m1 m2
    by_cases hjk : j = kk
    · subst hjk
      have e1 : (⟨xg, xu, xa⟩ : Sl) = ⟨gn, false, sa⟩ := by have := HX.out; rw [HS.out] at this; injection this with e; exact e.symm
      injection e1 with e1 e2 e3
      subst e1; subst e2; subst e3
      have HP := Lib.hid (OwnS.put3 (k := j) (H.out.s.below B) (by have := HL.out; omega) ⟨xg + 1, true, n⟩)
      obtain ⟨_, p0, p1, p2⟩ := OwnS.cells (H.out.s.below B) HX.out
      have fz := HP.out.2.2.2.2
      have HO := Lib.hid (H.out.below B)
      have hne1 : gS ≠ w.heap.size := by
        rcases own_not_bx HO.out.s g1 (by decide) with h | h
        · simp [Value.ownBlock] at h
        · intro e; exact h (by simp [Value.ownBlock, e])
      have hne2 : gS ≠ w.heap.size + 1 := by
        rcases own_not_bx HO.out.s g2 (by decide) with h | h
        · simp [Value.ownBlock] at h
        · intro e; exact h (by simp [Value.ownBlock, e])
      have hne3 : gS ≠ wr.heap.size := by
        have h1 := (H.out.s.lt gS rfl).2; have h2 := hzr; omega
      have fz2 := g2.free
      go_wp2
      refine bodyPost_ret (v := .tuple #[.agg #[.int .i64 j, .int .i64 (xg + 1)], .bool true]) (by simp [results, Try.results44, go_sem, c_g2]) rfl ?_
      have b0 := H.out.below B
      have hM3 := OwnM.slots b0 HP.out.2.1 HP.out.1
      have r2 : Bx _ (w.heap.size + 1) 28 _ := g2.grown HP.out.2.1 (.inr (fun e => hne2 (by injection e)))
      have hb1 : Keep w _ (some gS) := (Keep.of_below B).grown HP.out.2.1
      have hB3 := (B.mono hB).grown HP.out.2.1 (Nat.le_trans hB B.size) (fun k hk => by injection hk with hk; rw [← hk]; exact HP.out.2.2.1)
      refine ⟨rfl, (hM3.setH r2).setH (r2.set _), ?_, ?_⟩
      · exact (hB3.setCell (p := ⟨w.heap.size + 1, 0, none⟩) (by simp; omega) _).setCell (p := ⟨w.heap.size + 1, 1, none⟩) (by simp; omega) _
      · exact (hb1.setCell (p := ⟨w.heap.size + 1, 0, none⟩) (by simp) _).setCell (p := ⟨w.heap.size + 1, 1, none⟩) (by simp) _
    · have hjk2 : j < kk := by omega
      have hnf := HBF.out j _ hjk2 HX.out
      have hgx := HGEN.out _ (List.mem_of_getElem? HX.out)
      dsimp only at hnf hgx
      have hj2 : (j : Int) < 16 := by omega
      have HH := Lib.hid (And.intro g1 (And.intro g2 B))
      cases xu
      · have hge : ¬ xg < 2147483647 := fun h => hnf ⟨rfl, by omega⟩
        clear hnf
        go_wp2
        clear g1 g2 g3 B c_g1 c_g2 f_g1 f_g2 a_g1 a_g2 d_g1 d_g2 e_g1 e_g2 c_g3 f_g3 a_g3 d_g3 e_g3
        go_roundg (kk - (j + 1))
        case measure => omega
        case rel => exact ⟨j + 1, by omega, rfl, by go_num, HH⟩
      · clear hnf
        go_wp2
        clear g1 g2 g3 B c_g1 c_g2 f_g1 f_g2 a_g1 a_g2 d_g1 d_g2 e_g1 e_g2 c_g3 f_g3 a_g3 d_g3 e_g3
        go_roundg (kk - (j + 1))
        case measure => omega
        case rel => exact ⟨j + 1, by omega, rfl, by go_num, HH⟩
set_option maxRecDepth 100000 in
set_option maxHeartbeats 4000000 in
theorem handle_no (tv ov sv : Value) (m : Mo) (n : Int) (hnx : next m.slots = none) (hgen : ∀ s ∈ m.slots, 0 ≤ s.gen ∧ s.gen ≤ 2147483647) (hlen : m.slots.length = 16) (w : World) (h : Mod w tv ov sv m) :
    Calls Try.prog 44 #[.agg #[tv, ov, sv], .int .i64 n] w fun e w' => e = .returned (.tuple #[.agg #[.int .i64 0, .int .i64 0], .bool false]) ∧ Below w.heap.size w w' := by
  have B : Below w.heap.size w w := Below.refl _ _
  have ls := h.s.len
  rw [hlen] at ls
  have hall : ∀ (j : Nat) (s : Sl), m.slots[j]? = some s → ¬ (s.used = false ∧ s.gen < 2147483647) := by
    have aux : ∀ (L : List Sl) (k : Nat), nextFrom L k = none → ∀ (j : Nat) (s : Sl), L[j]? = some s → ¬ (s.used = false ∧ s.gen ≠ 2147483647) := by
      intro L
      induction L with
      | nil => intro k _ j s hs; simp at hs
      | cons x L ih =>
        intro k hk j s hs
        rw [nextFrom] at hk
        split at hk
        · cases hk
        · rename_i hx
          cases j with
          | zero => simp at hs; subst hs; exact hx
          | succ j => exact ih _ hk j s (by simpa using hs)
    intro j s hs hh
    exact aux _ _ hnx j s hs ⟨hh.1, by have := hh.2; omega⟩
  have H := Lib.hid h; have HL := Lib.hid hlen; have HA := Lib.hid hall
  clear hnx hgen hlen h hall
  go_enter Try.func44, Try.ntmps44
  go_upto_region 1 with (fail)
  refine wp_gen (fun Wv => Bx Wv (w.heap.size) (26) (#[tv, ov, sv]) ∧ Bx Wv (w.heap.size + 1) (28) (#[.int .i64 0, .int .i64 0]) ∧ Below w.heap.size w Wv) ⟨(((Bx.at_ (by simp)).alloc _)), ((Bx.at_ (by simp))), (((Below.refl _ w).alloc (by simp <;> omega) _).alloc (by simp <;> omega) _)⟩ ?_
  rintro wa1 ⟨g1, g2, b⟩
  replace B := B.trans (b.mono B.size); clear b
  have c_g1 := g1.cell; have f_g1 := g1.free; have a_g1 := fun o => (g1.alloc o).cell; have d_g1 := fun o o2 => ((g1.alloc o).alloc o2).cell; have e_g1 := fun o => (g1.alloc o).free
  have c_g2 := g2.cell; have f_g2 := g2.free; have a_g2 := fun o => (g2.alloc o).cell; have d_g2 := fun o o2 => ((g2.alloc o).alloc o2).cell; have e_g2 := fun o => (g2.alloc o).free
  have HG := Lib.hid (And.intro g1 (And.intro g2 B))
  clear g1 g2 B c_g1 c_g2 f_g1 f_g2 a_g1 a_g2 d_g1 d_g2 e_g1 e_g2
  have hwa := HG.out.1.cell
  go_wp2
  clear hwa
  go_loopg [11] 16 (fun g i wr => ∃ j : Nat, j ≤ 16 ∧ g = 16 - j ∧ i = .int .i64 j ∧ Hid (Bx wr w.heap.size 26 #[tv, ov, sv] ∧ Bx wr (w.heap.size + 1) 28 #[.int .i64 0, .int .i64 0] ∧ Below w.heap.size w wr))
  case atStart => exact ⟨0, by omega, by omega, rfl, HG⟩
  case round =>
    clear HG
    obtain ⟨j, hj, rfl, rfl, hh⟩ := hrel
    obtain ⟨g1, g2, B⟩ := hh.out
    clear hh
    by_cases hlt : j < 16
    · obtain ⟨b, o, s, ix, m0, m1, m2, hs⟩ := (H.out.s.below B).at_ (P := Try.prog) Try.underlying24 size_slot (k := j) (by have := HL.out; omega)
      have hnf := HA.out j s hs.out
      clear hs
      obtain ⟨xg, xu, xa⟩ := s
      dsimp only at m0 m1 m2 hnf
      go_upto_region 4 with (fail)
      refine wp_gen (fun Wv => Bx Wv (wr.heap.size) (67) (#[.int .i64 xg, .bool xu, .int .i64 xa]) ∧ Below wr.heap.size wr Wv) ⟨((Bx.at_ (by simp))), ((Below.refl _ wr).alloc (by simp <;> omega) _)⟩ ?_
      rintro wa1 ⟨g3, b⟩
      try clear c_g1 f_g1 a_g1 d_g1 e_g1
      replace g1 := g1.below b; have c_g1 := g1.cell; have f_g1 := g1.free; have a_g1 := fun o => (g1.alloc o).cell; have d_g1 := fun o o2 => ((g1.alloc o).alloc o2).cell; have e_g1 := fun o => (g1.alloc o).free; try clear c_g2 f_g2 a_g2 d_g2 e_g2
      replace g2 := g2.below b; have c_g2 := g2.cell; have f_g2 := g2.free; have a_g2 := fun o => (g2.alloc o).cell; have d_g2 := fun o o2 => ((g2.alloc o).alloc o2).cell; have e_g2 := fun o => (g2.alloc o).free; replace B := B.trans (b.mono B.size); clear b
      have c_g3 := g3.cell; have f_g3 := g3.free; have a_g3 := fun o => (g3.alloc o).cell; have d_g3 := fun o o2 => ((g3.alloc o).alloc o2).cell; have e_g3 := fun o => (g3.alloc o).free
      clear m0 m1 m2
      have HH := Lib.hid (And.intro g1 (And.intro g2 B))
      cases xu
      · have hge : ¬ xg < 2147483647 := fun h => hnf ⟨rfl, h⟩
        clear hnf
        go_wp2
        clear g1 g2 g3 B c_g1 c_g2 f_g1 f_g2 a_g1 a_g2 d_g1 d_g2 e_g1 e_g2 c_g3 f_g3 a_g3 d_g3 e_g3
        go_roundg (16 - (j + 1))
        case measure => omega
        case rel => exact ⟨j + 1, by omega, rfl, by go_num, HH⟩
      · clear hnf
        go_wp2
        clear g1 g2 g3 B c_g1 c_g2 f_g1 f_g2 a_g1 a_g2 d_g1 d_g2 e_g1 e_g2 c_g3 f_g3 a_g3 d_g3 e_g3
        go_roundg (16 - (j + 1))
        case measure => omega
        case rel => exact ⟨j + 1, by omega, rfl, by go_num, HH⟩
    · obtain rfl : j = 16 := by omega
      have c_g2 := g2.cell; have f_g2 := g2.free
      go_wp2
      refine bodyPost_ret (v := .tuple #[.agg #[.int .i64 0, .int .i64 0], .bool false]) (by simp [results, Try.results44, go_sem, c_g2]) rfl ⟨rfl, ?_⟩
      exact (B.setCell (p := ⟨w.heap.size + 1, 0, none⟩) (by simp) _).setCell (p := ⟨w.heap.size + 1, 1, none⟩) (by simp) _
end Go.Proofs.Ytgjpohhafmkhcaa
namespace Go.Proofs.Ytgjpohhafmkhcaa
open Go.RowKit L02 L13 L18 L20
/-- objects of the call's own, of which number n has its fields in block gf -/
def OwnF (w : World) (base : Nat) (v : Value) (L : List Ob) (n gf : Nat) : Prop := ∃ (vs : List Value) (nf cf : Nat), vs.length = L.length ∧ w.ownsRow base 72 2 v L.length (obC L vs) ∧ (∀ (i : Nat) x o, vs[i]? = some x → L[i]? = some o → OwnW w base 29 x o.fs) ∧
  (∀ (i j : Nat) x y, i ≠ j → vs[i]? = some x → vs[j]? = some y → x.ownBlock = none ∨ x.ownBlock ≠ y.ownBlock) ∧ vs[n]? = some (.slice (some ⟨gf, 0, none⟩) nf cf)
theorem OwnF.own {w : World} {base n gf : Nat} {v : Value} {L : List Ob} (h : OwnF w base v L n gf) : OwnO w base v L := by
  obtain ⟨vs, nf, cf, h1, h2, h4, h5, _⟩ := h; exact ⟨vs, h1, h2, h4, h5⟩
theorem OwnF.below {w w' : World} {base n gf : Nat} {v : Value} {L : List Ob} (h : OwnF w base v L n gf) (hb : Below w.heap.size w w') : OwnF w' base v L n gf := by
  obtain ⟨vs, nf, cf, h1, h2, h4, h5, h6⟩ := h; exact ⟨vs, nf, cf, h1, own_below h2 hb, fun i x l h5 h6 => (h4 i x l h5 h6).below hb, h5, h6⟩
theorem OwnF.mono {w : World} {base base' n gf : Nat} {v : Value} {L : List Ob} (h : OwnF w base v L n gf) (hb : base' ≤ base) : OwnF w base' v L n gf := by
  obtain ⟨vs, nf, cf, h1, h2, h4, h5, h6⟩ := h; exact ⟨vs, nf, cf, h1, own_mono h2 hb, fun i x l h5 h6 => own_mono (h4 i x l h5 h6) hb, h5, h6⟩
theorem OwnF.set {w : World} {B p i n gf : Nat} {v u : Value} {L : List Ob} {t : TypeId} {cs : Array Value} (h : OwnF w B v L n gf) (hg : Bx w p t cs) (h1 : 72 ≠ t) (h2 : 29 ≠ t) : OwnF (w.setCell ⟨p, i, none⟩ u) B v L n gf := by
  obtain ⟨vs, nf, cf, a1, a2, a4, a5, a6⟩ := h; exact ⟨vs, nf, cf, a1, own_set a2 hg h1, fun i x l h5 h6 => own_set (a4 i x l h5 h6) hg h2, a5, a6⟩
theorem OwnF.cell {w : World} {base n gf i : Nat} {v : Value} {L : List Ob} {o : Ob} {x : UInt64} (h : OwnF w base v L n gf) (ho : L[n]? = some o) (hx : o.fs[i]? = some x) :
    w.cell? ⟨gf, i, none⟩ = some (.int .u64 x.toNat) ∧ w.frozen? ⟨gf, i, none⟩ = false ∧ base ≤ gf ∧ gf < w.heap.size := by
  obtain ⟨vs, nf, cf, h1, h2, h4, h5, h6⟩ := h
  have hr := h4 n _ _ h6 ho
  have hi : i < o.fs.length := (List.getElem?_eq_some_iff.1 hx).1
  have hn : nf = o.fs.length := by
    obtain ⟨g', cap, cur, hv, _⟩ := own_form hr (by omega)
    injection hv
  subst hn
  have hl := hr.lt gf rfl
  have hc := Rd.cell (OwnW.rd hr) (j := i) (u := u64 x) (by rw [List.getElem?_map, hx]; rfl)
  refine ⟨?_, hr.frozenAt i, hl.1, hl.2⟩
  simpa [cellAt, u64] using hc
/-- where an own object lies; x the slice of its fields -/
theorem OwnO.at_ {w : World} {base : Nat} {v : Value} {L : List Ob} (h : OwnO w base v L) {n : Nat} {o : Ob} (ho : L[n]? = some o) (hf : 0 < o.fs.length) :
    ∃ b q gf nf cf, (∀ W, (Instr.indexAt 23 v (.int .i64 (n : Int))).run Try.prog W = .ok (.pointer (some ⟨b, q, none⟩)) W) ∧ w.cell? ⟨b, q, none⟩ = some (.int .i64 o.ty) ∧ w.cell? ⟨b, q + 1, none⟩ = some (.slice (some ⟨gf, 0, none⟩) nf cf) ∧ b < w.heap.size ∧ OwnF w base v L n gf ∧ nf = o.fs.length ∧
      ∀ i, i < o.fs.length → ∀ W, (Instr.indexAt 70 (.slice (some ⟨gf, 0, none⟩) nf cf) (.int .i64 (i : Int))).run Try.prog W = .ok (.pointer (some ⟨gf, i, none⟩)) W := by
  obtain ⟨vs, h1, h2, h4, h5⟩ := h
  have hk : n < L.length := (List.getElem?_eq_some_iff.1 ho).1
  have hv : vs[n]? = some vs[n] := List.getElem?_eq_getElem (by omega)
  have hr := h4 n _ _ hv ho
  obtain ⟨gf, cap, cur, hvv, _⟩ := own_form hr hf
  have hix := fun W => Rd.ixN (P := Try.prog) (Rd.of_own h2) Try.underlying23 size_obj hk W
  obtain ⟨b, q, c, rfl, hb, hc, hcell⟩ := Rd.form (Rd.of_own h2) (by omega)
  obtain ⟨c0, c1⟩ := obC_get ho hv
  rw [hvv] at c1 hv hr
  refine ⟨b, q + n * 2, gf, _, cap, fun W => hix W, hcell _ _ c0, hcell _ _ c1, hb, ⟨vs, _, cap, h1, h2, h4, h5, hv⟩, rfl, fun i hi W => ?_⟩
  have := Rd.ixN (P := Try.prog) (OwnW.rd hr) Try.underlying70 one_u64 hi W
  simpa [cellAt] using this
theorem obC_setFs : ∀ {L : List Ob} {vs : List Value} {n : Nat} {o : Ob} {f : List UInt64}, L[n]? = some o → obC (L.set n ⟨o.ty, f⟩) vs = obC L vs
  | [], _, _, _, _, h => by simp at h
  | o :: L, [], 0, o', f, h => rfl
  | o :: L, x :: vs, 0, o', f, h => by simp at h; subst h; rfl
  | o :: L, [], n + 1, o', f, h => rfl
  | o :: L, x :: vs, n + 1, o', f, h => by
    rw [List.set_cons_succ, obC, obC, obC_setFs (by simpa using h)]
/-- a word is stored into a field -/
theorem OwnM.storeF {w : World} {B n gf i : Nat} {tv ov sv : Value} {m : Mo} {o : Ob} {x0 : UInt64} (h : OwnM w B 67 tv ov sv m) (hf : OwnF w B ov m.objs n gf) (ho : m.objs[n]? = some o) (hx : o.fs[i]? = some x0) (x : UInt64) :
    OwnM (w.setCell ⟨gf, i, none⟩ (.int .u64 x.toNat)) B 67 tv ov sv (putF m n i x) ∧ OwnF (w.setCell ⟨gf, i, none⟩ (.int .u64 x.toNat)) B ov (putF m n i x).objs n gf ∧ w.grownBy (w.setCell ⟨gf, i, none⟩ (.int .u64 x.toNat)) (some gf) := by
  obtain ⟨vs, nf, cf, h1, h2, h4, h5, h6⟩ := hf
  have hob : ob m n = o := by simp [ob, List.getD_eq_getElem?_getD, ho]
  have hr := h4 n _ _ h6 ho
  have hi : i < o.fs.length := (List.getElem?_eq_some_iff.1 hx).1
  have hn : nf = o.fs.length := by
    obtain ⟨g', cap, cur, hv, _⟩ := own_form hr (by omega)
    injection hv
  subst hn
  have hst := World.ownsRow.stored hr i (u64 x)
  have hg := hst.2
  have ho2 : (w.setCell ⟨gf, i, none⟩ (u64 x)).ownsRow B 72 2 ov m.objs.length (obC m.objs vs) := World.ownsRow.kept h2 hg (own_unlike h2 hr (by decide))
  have hF : OwnF (w.setCell ⟨gf, i, none⟩ (u64 x)) B ov (putF m n i x).objs n gf := by
    refine ⟨vs, _, cf, by simp [L20.putF, h1], ?_, fun j y l hy hl => ?_, h5, h6⟩
    · show World.ownsRow _ B _ 2 ov (m.objs.set n ⟨(ob m n).ty, (ob m n).fs.set i x⟩).length (obC (m.objs.set n ⟨(ob m n).ty, (ob m n).fs.set i x⟩) vs)
      rw [hob, obC_setFs ho, List.length_set]; exact ho2
    · by_cases hj : j = n
      · subst hj
        have e1 : (putF m j i x).objs[j]? = some ⟨(ob m j).ty, (ob m j).fs.set i x⟩ := by
          show (m.objs.set j _)[j]? = _
          rw [List.getElem?_set_self (List.getElem?_eq_some_iff.1 ho).1]
        rw [e1] at hl; injection hl with hl; subst hl
        rw [h6] at hy; injection hy with hy; subst hy
        refine OwnW.of hst.1 ?_
        rw [hob]; simp only [List.map_set]
      · have e1 : (putF m n i x).objs[j]? = m.objs[j]? := by
          show (m.objs.set n _)[j]? = _
          rw [List.getElem?_set_ne (Ne.symm hj)]
        rw [e1] at hl
        exact World.ownsRow.kept (h4 j y l hy hl) hg (h5 j n y _ hj hy h6)
  exact ⟨⟨OwnT.kept h.t hr hg (by decide) (by decide), hF.own, World.ownsRow.kept h.s hg (own_unlike h.s hr (by decide))⟩, hF, hg⟩
set_option maxRecDepth 100000 in
set_option maxHeartbeats 4000000 in
theorem field_no (tv ov sv : Value) (m : Mo) (sl g n : Int) (r : Int) (hr : r = kErrF m sl g n) (h0 : r ≠ 0) (w : World) (h : Mod w tv ov sv m) :
    Calls Try.prog 39 #[.agg #[tv, ov, sv], .agg #[.int .i64 sl, .int .i64 g], .int .i64 n] w fun e w' => e = .returned (.tuple #[.agg #[.slice none 0 0, .slice none 0 0, .slice none 0 0], .pointer none, .int .u8 0, .int .i64 r]) ∧ Below w.heap.size w w' := by
  have B : Below w.heap.size w w := Below.refl _ _
  have H := Lib.hid h
  by_cases ha : asked m sl g = 0
  · have hn : ¬ (0 ≤ n ∧ n < (kinds m sl).length) := fun hh => h0 (by rw [hr, kErrF_ok ha hh])
    have hr2 : r = 2 := by rw [hr, kErrF_arg ha hn]
    have hask := asked_ok ha
    obtain ⟨c0, hr0, k, s, n', o, t, hk, hk16, hs, hu, hg, hso, hat, hown, ho, hob, hoo, ht, htt, hkinds, hfl⟩ := hask
    have OT := Lib.hid (fun w h => open20_ok tv ov sv m sl g n' ha hown w h)
    subst hr2
    rw [hkinds] at hn
    have HO := Lib.hid ho; have HFL := Lib.hid hfl
    clear ha hr h0 c0 hr0 hs hu hg hso hat hown ho hob hoo ht htt hkinds h hk hfl
    go_enter Try.func39, Try.ntmps39
    go_upto_region 1 with (fail)
    refine wp_gen (fun Wv => Bx Wv (w.heap.size) (26) (#[tv, ov, sv]) ∧ Bx Wv (w.heap.size + 1) (28) (#[.int .i64 sl, .int .i64 g]) ∧ Bx Wv (w.heap.size + 1 + 1) (26) (#[.slice none 0 0, .slice none 0 0, .slice none 0 0]) ∧ Below w.heap.size w Wv) ⟨((((Bx.at_ (by simp)).alloc _).alloc _)), (((Bx.at_ (by simp)).alloc _)), ((Bx.at_ (by simp))), ((((Below.refl _ w).alloc (by simp <;> omega) _).alloc (by simp <;> omega) _).alloc (by simp <;> omega) _)⟩ ?_
    rintro wa1 ⟨g1, g2, g3, b⟩
    replace B := B.trans (b.mono B.size); clear b
    have c_g1 := g1.cell; have f_g1 := g1.free; have a_g1 := fun o => (g1.alloc o).cell; have d_g1 := fun o o2 => ((g1.alloc o).alloc o2).cell; have e_g1 := fun o => (g1.alloc o).free
    have c_g2 := g2.cell; have f_g2 := g2.free; have a_g2 := fun o => (g2.alloc o).cell; have d_g2 := fun o o2 => ((g2.alloc o).alloc o2).cell; have e_g2 := fun o => (g2.alloc o).free
    have c_g3 := g3.cell; have f_g3 := g3.free; have a_g3 := fun o => (g3.alloc o).cell; have d_g3 := fun o o2 => ((g3.alloc o).alloc o2).cell; have e_g3 := fun o => (g3.alloc o).free
    go_wp2_with fail
    refine (OT.out _ (H.out.below B)).mono ?_
    rintro e wa2 ⟨t', o', s', rfl, om, b⟩
    try clear c_g1 f_g1 a_g1 d_g1 e_g1
    replace g1 := g1.below b; have c_g1 := g1.cell; have f_g1 := g1.free; have a_g1 := fun o => (g1.alloc o).cell; have d_g1 := fun o o2 => ((g1.alloc o).alloc o2).cell; have e_g1 := fun o => (g1.alloc o).free; try clear c_g2 f_g2 a_g2 d_g2 e_g2
    replace g2 := g2.below b; have c_g2 := g2.cell; have f_g2 := g2.free; have a_g2 := fun o => (g2.alloc o).cell; have d_g2 := fun o o2 => ((g2.alloc o).alloc o2).cell; have e_g2 := fun o => (g2.alloc o).free; try clear c_g3 f_g3 a_g3 d_g3 e_g3
    replace g3 := g3.below b; have c_g3 := g3.cell; have f_g3 := g3.free; have a_g3 := fun o => (g3.alloc o).cell; have d_g3 := fun o o2 => ((g3.alloc o).alloc o2).cell; have e_g3 := fun o => (g3.alloc o).free; replace B := B.trans (b.mono B.size); clear b
    obtain ⟨⟨tA, tn, tc, rfl⟩, ⟨oA, on, oc, rfl⟩, ⟨sA, sn, sc, rfl⟩⟩ := om.forms
    go_upto_region 2 with (fail)
    refine wp_gen (fun Wv => Bx Wv (wa2.heap.size) (26) (#[.slice tA tn tc, .slice oA on oc, .slice sA sn sc]) ∧ Below wa2.heap.size wa2 Wv) ⟨((Bx.at_ (by simp))), ((Below.refl _ wa2).alloc (by simp <;> omega) _)⟩ ?_
    rintro wa3 ⟨g4, b⟩
    try clear c_g1 f_g1 a_g1 d_g1 e_g1
    replace g1 := g1.below b; have c_g1 := g1.cell; have f_g1 := g1.free; have a_g1 := fun o => (g1.alloc o).cell; have d_g1 := fun o o2 => ((g1.alloc o).alloc o2).cell; have e_g1 := fun o => (g1.alloc o).free; try clear c_g2 f_g2 a_g2 d_g2 e_g2
    replace g2 := g2.below b; have c_g2 := g2.cell; have f_g2 := g2.free; have a_g2 := fun o => (g2.alloc o).cell; have d_g2 := fun o o2 => ((g2.alloc o).alloc o2).cell; have e_g2 := fun o => (g2.alloc o).free; try clear c_g3 f_g3 a_g3 d_g3 e_g3
    replace g3 := g3.below b; have c_g3 := g3.cell; have f_g3 := g3.free; have a_g3 := fun o => (g3.alloc o).cell; have d_g3 := fun o o2 => ((g3.alloc o).alloc o2).cell; have e_g3 := fun o => (g3.alloc o).free; replace om := om.below b; replace B := B.trans (b.mono B.size); clear b
    have c_g4 := g4.cell; have f_g4 := g4.free; have a_g4 := fun o => (g4.alloc o).cell; have d_g4 := fun o o2 => ((g4.alloc o).alloc o2).cell; have e_g4 := fun o => (g4.alloc o).free
    have HOM := Lib.hid om
    obtain ⟨ob_, oq, x, o2, ix, m0, m1, ho2, hx, hob2⟩ := om.rd.o.at_ (k := n') (List.getElem?_eq_some_iff.1 HO.out).1
    obtain rfl : o2 = o := by have := ho2.out; rw [HO.out] at this; injection this with e; exact e.symm
    have lx := Rd.len hx.out Try.underlying70
    obtain ⟨xA, xn, xc, rfl⟩ : ∃ A n c, x = .slice A n c := by obtain ⟨A, c, e, _⟩ := hx.out; exact ⟨A, _, c, e⟩
    obtain ⟨nf, hnf⟩ : ∃ N, N = o2.fs.length := ⟨_, rfl⟩
    rw [← hnf] at lx
    have hcase : n < 0 ∨ ¬ n < 0 ∧ (nf : Int) ≤ n := by have := HFL.out; omega
    clear om hx ho2 hn hnf
    go_upto_region 5 with (fail)
    refine wp_gen (fun Wv => Bx Wv (wa3.heap.size) (72) (#[.int .i64 o2.ty, .slice xA xn xc]) ∧ Below wa3.heap.size wa3 Wv) ⟨((Bx.at_ (by simp))), ((Below.refl _ wa3).alloc (by simp <;> omega) _)⟩ ?_
    rintro wa4 ⟨g5, b⟩
    try clear c_g1 f_g1 a_g1 d_g1 e_g1
    replace g1 := g1.below b; have c_g1 := g1.cell; have f_g1 := g1.free; have a_g1 := fun o => (g1.alloc o).cell; have d_g1 := fun o o2 => ((g1.alloc o).alloc o2).cell; have e_g1 := fun o => (g1.alloc o).free; try clear c_g2 f_g2 a_g2 d_g2 e_g2
    replace g2 := g2.below b; have c_g2 := g2.cell; have f_g2 := g2.free; have a_g2 := fun o => (g2.alloc o).cell; have d_g2 := fun o o2 => ((g2.alloc o).alloc o2).cell; have e_g2 := fun o => (g2.alloc o).free; try clear c_g3 f_g3 a_g3 d_g3 e_g3
    replace g3 := g3.below b; have c_g3 := g3.cell; have f_g3 := g3.free; have a_g3 := fun o => (g3.alloc o).cell; have d_g3 := fun o o2 => ((g3.alloc o).alloc o2).cell; have e_g3 := fun o => (g3.alloc o).free; try clear c_g4 f_g4 a_g4 d_g4 e_g4
    replace g4 := g4.below b; have c_g4 := g4.cell; have f_g4 := g4.free; have a_g4 := fun o => (g4.alloc o).cell; have d_g4 := fun o o2 => ((g4.alloc o).alloc o2).cell; have e_g4 := fun o => (g4.alloc o).free; replace B := B.trans (b.mono B.size); clear b
    have c_g5 := g5.cell; have f_g5 := g5.free; have a_g5 := fun o => (g5.alloc o).cell; have d_g5 := fun o o2 => ((g5.alloc o).alloc o2).cell; have e_g5 := fun o => (g5.alloc o).free
    clear m0 m1
    rcases hcase with h1 | ⟨h1, h2⟩
    all_goals
      go_wp2
      refine bodyPost_ret (v := .tuple #[.agg #[.slice none 0 0, .slice none 0 0, .slice none 0 0], .pointer none, .int .u8 0, .int .i64 2]) (by simp [results, Try.results39, go_sem, c_g3, f_g3]) rfl ⟨rfl, ?_⟩
      (repeat (first | refine Below.setCell ?_ (by first | exact Nat.le_refl _ | (simp <;> omega)) _ | refine Below.alloc ?_ (by first | exact B.size | (have := B.size; simp <;> omega)) _)); exact B
  · have hr1 : r = asked m sl g := by rw [hr, kErrF_no ha]
    have OT := Lib.hid (fun w h => open20_no tv ov sv m sl g r hr1 h0 w h)
    have hne : (r != 0) = true := by rw [bne_iff_ne]; exact h0
    clear hr hr1 ha h0 h
    go_enter Try.func39, Try.ntmps39
    go_upto_region 1 with (fail)
    refine wp_gen (fun Wv => Bx Wv (w.heap.size) (26) (#[tv, ov, sv]) ∧ Bx Wv (w.heap.size + 1) (28) (#[.int .i64 sl, .int .i64 g]) ∧ Bx Wv (w.heap.size + 1 + 1) (26) (#[.slice none 0 0, .slice none 0 0, .slice none 0 0]) ∧ Below w.heap.size w Wv) ⟨((((Bx.at_ (by simp)).alloc _).alloc _)), (((Bx.at_ (by simp)).alloc _)), ((Bx.at_ (by simp))), ((((Below.refl _ w).alloc (by simp <;> omega) _).alloc (by simp <;> omega) _).alloc (by simp <;> omega) _)⟩ ?_
    rintro wa1 ⟨g1, g2, g3, b⟩
    replace B := B.trans (b.mono B.size); clear b
    have c_g1 := g1.cell; have f_g1 := g1.free; have a_g1 := fun o => (g1.alloc o).cell; have d_g1 := fun o o2 => ((g1.alloc o).alloc o2).cell; have e_g1 := fun o => (g1.alloc o).free
    have c_g2 := g2.cell; have f_g2 := g2.free; have a_g2 := fun o => (g2.alloc o).cell; have d_g2 := fun o o2 => ((g2.alloc o).alloc o2).cell; have e_g2 := fun o => (g2.alloc o).free
    have c_g3 := g3.cell; have f_g3 := g3.free; have a_g3 := fun o => (g3.alloc o).cell; have d_g3 := fun o o2 => ((g3.alloc o).alloc o2).cell; have e_g3 := fun o => (g3.alloc o).free
    go_wp2_with fail
    refine (OT.out _ (H.out.below B)).mono ?_
    rintro e wa2 ⟨rfl, b⟩
    try clear c_g1 f_g1 a_g1 d_g1 e_g1
    replace g1 := g1.below b; have c_g1 := g1.cell; have f_g1 := g1.free; have a_g1 := fun o => (g1.alloc o).cell; have d_g1 := fun o o2 => ((g1.alloc o).alloc o2).cell; have e_g1 := fun o => (g1.alloc o).free; try clear c_g2 f_g2 a_g2 d_g2 e_g2
    replace g2 := g2.below b; have c_g2 := g2.cell; have f_g2 := g2.free; have a_g2 := fun o => (g2.alloc o).cell; have d_g2 := fun o o2 => ((g2.alloc o).alloc o2).cell; have e_g2 := fun o => (g2.alloc o).free; try clear c_g3 f_g3 a_g3 d_g3 e_g3
    replace g3 := g3.below b; have c_g3 := g3.cell; have f_g3 := g3.free; have a_g3 := fun o => (g3.alloc o).cell; have d_g3 := fun o o2 => ((g3.alloc o).alloc o2).cell; have e_g3 := fun o => (g3.alloc o).free; replace B := B.trans (b.mono B.size); clear b
    go_upto_region 2 with (fail)
    refine wp_gen (fun Wv => Bx Wv (wa2.heap.size) (26) (#[.slice none 0 0, .slice none 0 0, .slice none 0 0]) ∧ Below wa2.heap.size wa2 Wv) ⟨((Bx.at_ (by simp))), ((Below.refl _ wa2).alloc (by simp <;> omega) _)⟩ ?_
    rintro wa3 ⟨g4, b⟩
    try clear c_g1 f_g1 a_g1 d_g1 e_g1
    replace g1 := g1.below b; have c_g1 := g1.cell; have f_g1 := g1.free; have a_g1 := fun o => (g1.alloc o).cell; have d_g1 := fun o o2 => ((g1.alloc o).alloc o2).cell; have e_g1 := fun o => (g1.alloc o).free; try clear c_g2 f_g2 a_g2 d_g2 e_g2
    replace g2 := g2.below b; have c_g2 := g2.cell; have f_g2 := g2.free; have a_g2 := fun o => (g2.alloc o).cell; have d_g2 := fun o o2 => ((g2.alloc o).alloc o2).cell; have e_g2 := fun o => (g2.alloc o).free; try clear c_g3 f_g3 a_g3 d_g3 e_g3
    replace g3 := g3.below b; have c_g3 := g3.cell; have f_g3 := g3.free; have a_g3 := fun o => (g3.alloc o).cell; have d_g3 := fun o o2 => ((g3.alloc o).alloc o2).cell; have e_g3 := fun o => (g3.alloc o).free; replace B := B.trans (b.mono B.size); clear b
    have c_g4 := g4.cell; have f_g4 := g4.free; have a_g4 := fun o => (g4.alloc o).cell; have d_g4 := fun o o2 => ((g4.alloc o).alloc o2).cell; have e_g4 := fun o => (g4.alloc o).free
    go_wp2
    refine bodyPost_ret (v := .tuple #[.agg #[.slice none 0 0, .slice none 0 0, .slice none 0 0], .pointer none, .int .u8 0, .int .i64 r]) (by simp [results, Try.results39, go_sem, c_g3, f_g3]) rfl ⟨rfl, ?_⟩
    (repeat (first | refine Below.setCell ?_ (by first | exact Nat.le_refl _ | (simp <;> omega)) _ | refine Below.alloc ?_ (by first | exact B.size | (have := B.size; simp <;> omega)) _)); exact B
end Go.Proofs.Ytgjpohhafmkhcaa
namespace Go.Proofs.Ytgjpohhafmkhcaa
open Go.RowKit L02 L13 L18 L20
def wsF (w : World) (p : Nat) (a b c : Value) : Nat → World
  | 0 => w.drew
  | _ => ((w.drew.setCell ⟨p, 0, none⟩ a).setCell ⟨p, 1, none⟩ b).setCell ⟨p, 2, none⟩ c
/-- a byte of an own table -/
theorem OwnT.at2 {w : World} {base : Nat} {v : Value} {L : List (List UInt8)} (h : OwnT w base v L) {k i : Nat} {l : List UInt8} {b : UInt8} (hl : L[k]? = some l) (hb : l[i]? = some b) :
    ∃ ad bd y, (∀ W, (Instr.indexAt 22 v (.int .i64 (k : Int))).run Try.prog W = .ok (.pointer (some ad)) W) ∧ w.cell? ad = some y ∧ (∀ W, (Instr.indexAt 74 y (.int .i64 (i : Int))).run Try.prog W = .ok (.pointer (some bd)) W) ∧ w.cell? bd = some (.int .u8 b.toNat) ∧ base ≤ ad.block ∧ base ≤ bd.block := by
  obtain ⟨vs, h1, h2, h4⟩ := h
  have hk : k < L.length := (List.getElem?_eq_some_iff.1 hl).1
  have hi : i < l.length := (List.getElem?_eq_some_iff.1 hb).1
  have hv : vs[k]? = some vs[k] := List.getElem?_eq_getElem (by omega)
  have hr := h4 k _ _ hv hl
  obtain ⟨g, c, cur, e, hg, _⟩ := own_form h2 (by omega)
  obtain ⟨g', c', cur', e', hg', _⟩ := own_form hr (by omega)
  refine ⟨cellAt v (k * 1), cellAt vs[k] (i * 1), vs[k], fun W => Rd.ixN (Rd.of_own h2) Try.underlying22 one_bytes hk W, by rw [Nat.mul_one]; exact Rd.cell (Rd.of_own h2) hv, fun W => Rd.ixN (OwnB.rd hr) Try.underlying74 one_u8 hi W, ?_, ?_, ?_⟩
  · rw [Nat.mul_one]; exact Rd.cell (OwnB.rd hr) (by rw [List.getElem?_map, hb]; rfl)
  · rw [e]; exact hg
  · rw [e']; exact hg'
set_option maxRecDepth 100000 in
set_option maxHeartbeats 4000000 in
theorem field_ok (tv ov sv : Value) (m : Mo) (sl g : Int) (i : Nat) (kd : UInt8) (o : Ob) (n' : Nat) (h0 : kErrF m sl g i = 0) (hkd : kd = kind m sl g i) (hown : own m sl = n') (ho : m.objs[n']? = some o) (w : World) (h : Mod w tv ov sv m) :
    Calls Try.prog 39 #[.agg #[tv, ov, sv], .agg #[.int .i64 sl, .int .i64 g], .int .i64 i] w fun e w' => ∃ t' o' s' gf, e = .returned (.tuple #[.agg #[t', o', s'], .pointer (some ⟨gf, i, none⟩), .int .u8 kd.toNat, .int .i64 0]) ∧ OwnM w' w.heap.size 67 t' o' s' m ∧ OwnF w' w.heap.size o' m.objs n' gf ∧ Below w.heap.size w w' := by
  have B : Below w.heap.size w w := Below.refl _ _
  have H := Lib.hid h
  obtain ⟨ha, hn0, hnl⟩ := kErrF_inv h0
  obtain ⟨c0, hr0, k, s, n2, o2, t, hk, hk16, hs, hu, hg, hso, hat, hown2, ho2, hob, hoo, ht, htt, hkinds, hfl⟩ := asked_ok ha
  obtain rfl : n2 = n' := by rw [← hown2, hown]
  obtain rfl : o2 = o := by rw [ho2] at ho; injection ho
  have OT := Lib.hid (fun w h => open20_ok tv ov sv m sl g n2 ha hown w h)
  rw [hkinds] at hnl
  have hil : i < t.length := by omega
  have hkk : kd = t.getD i 0 := by rw [hkd, kind, if_pos h0, hkinds]; rfl
  have hki : t[i]? = some kd := by rw [hkk, List.getD_eq_getElem?_getD, List.getElem?_eq_getElem hil]; rfl
  have hty0 := hoo.1.1
  obtain ⟨q, hq⟩ := Int.eq_ofNat_of_zero_le hty0
  rw [hq, Int.toNat_natCast] at ht
  have HO := Lib.hid ho; have HFL := Lib.hid hfl; have HT := Lib.hid ht; have HKI := Lib.hid hki; have HQ := Lib.hid hq
  clear ha h0 hkd hkk c0 hr0 hs hu hg hso hat hown hown2 ho ho2 hob hoo ht htt hkinds h hk hfl hki hty0 hn0 hnl
  go_enter Try.func39, Try.ntmps39
  go_upto_region 1 with (fail)
  refine wp_gen (fun Wv => Bx Wv (w.heap.size) (26) (#[tv, ov, sv]) ∧ Bx Wv (w.heap.size + 1) (28) (#[.int .i64 sl, .int .i64 g]) ∧ Bx Wv (w.heap.size + 1 + 1) (26) (#[.slice none 0 0, .slice none 0 0, .slice none 0 0]) ∧ Below w.heap.size w Wv) ⟨((((Bx.at_ (by simp)).alloc _).alloc _)), (((Bx.at_ (by simp)).alloc _)), ((Bx.at_ (by simp))), ((((Below.refl _ w).alloc (by simp <;> omega) _).alloc (by simp <;> omega) _).alloc (by simp <;> omega) _)⟩ ?_
  rintro wa1 ⟨g1, g2, g3, b⟩
  replace B := B.trans (b.mono B.size); clear b
  have c_g1 := g1.cell; have f_g1 := g1.free; have a_g1 := fun o => (g1.alloc o).cell; have d_g1 := fun o o2 => ((g1.alloc o).alloc o2).cell; have e_g1 := fun o => (g1.alloc o).free
  have c_g2 := g2.cell; have f_g2 := g2.free; have a_g2 := fun o => (g2.alloc o).cell; have d_g2 := fun o o2 => ((g2.alloc o).alloc o2).cell; have e_g2 := fun o => (g2.alloc o).free
  have c_g3 := g3.cell; have f_g3 := g3.free; have a_g3 := fun o => (g3.alloc o).cell; have d_g3 := fun o o2 => ((g3.alloc o).alloc o2).cell; have e_g3 := fun o => (g3.alloc o).free
  have hz1 := B.size
  have hp1 := g3.lt
  go_wp2_with fail
  refine (OT.out _ (H.out.below B)).mono ?_
  rintro e wa2 ⟨t', o', s', rfl, om, b⟩
  try clear c_g1 f_g1 a_g1 d_g1 e_g1
  replace g1 := g1.below b; have c_g1 := g1.cell; have f_g1 := g1.free; have a_g1 := fun o => (g1.alloc o).cell; have d_g1 := fun o o2 => ((g1.alloc o).alloc o2).cell; have e_g1 := fun o => (g1.alloc o).free; try clear c_g2 f_g2 a_g2 d_g2 e_g2
  replace g2 := g2.below b; have c_g2 := g2.cell; have f_g2 := g2.free; have a_g2 := fun o => (g2.alloc o).cell; have d_g2 := fun o o2 => ((g2.alloc o).alloc o2).cell; have e_g2 := fun o => (g2.alloc o).free; try clear c_g3 f_g3 a_g3 d_g3 e_g3
  replace g3 := g3.below b; have c_g3 := g3.cell; have f_g3 := g3.free; have a_g3 := fun o => (g3.alloc o).cell; have d_g3 := fun o o2 => ((g3.alloc o).alloc o2).cell; have e_g3 := fun o => (g3.alloc o).free; replace B := B.trans (b.mono B.size); clear b
  have hp1b := g3.lt
  obtain ⟨⟨tA, tn, tc, rfl⟩, ⟨oA, on, oc, rfl⟩, ⟨sA, sn, sc, rfl⟩⟩ := om.forms
  go_upto_region 2 with (fail)
  refine wp_gen (fun Wv => Bx Wv (wa2.heap.size) (26) (#[.slice tA tn tc, .slice oA on oc, .slice sA sn sc]) ∧ Below wa2.heap.size wa2 Wv) ⟨((Bx.at_ (by simp))), ((Below.refl _ wa2).alloc (by simp <;> omega) _)⟩ ?_
  rintro wa3 ⟨g4, b⟩
  try clear c_g1 f_g1 a_g1 d_g1 e_g1
  replace g1 := g1.below b; have c_g1 := g1.cell; have f_g1 := g1.free; have a_g1 := fun o => (g1.alloc o).cell; have d_g1 := fun o o2 => ((g1.alloc o).alloc o2).cell; have e_g1 := fun o => (g1.alloc o).free; try clear c_g2 f_g2 a_g2 d_g2 e_g2
  replace g2 := g2.below b; have c_g2 := g2.cell; have f_g2 := g2.free; have a_g2 := fun o => (g2.alloc o).cell; have d_g2 := fun o o2 => ((g2.alloc o).alloc o2).cell; have e_g2 := fun o => (g2.alloc o).free; try clear c_g3 f_g3 a_g3 d_g3 e_g3
  replace g3 := g3.below b; have c_g3 := g3.cell; have f_g3 := g3.free; have a_g3 := fun o => (g3.alloc o).cell; have d_g3 := fun o o2 => ((g3.alloc o).alloc o2).cell; have e_g3 := fun o => (g3.alloc o).free; replace om := om.below b; replace B := B.trans (b.mono B.size); clear b
  have c_g4 := g4.cell; have f_g4 := g4.free; have a_g4 := fun o => (g4.alloc o).cell; have d_g4 := fun o o2 => ((g4.alloc o).alloc o2).cell; have e_g4 := fun o => (g4.alloc o).free
  have hp1c := g3.lt
  obtain ⟨ob_, oq, gf, nf, cf, ix, m0, m1, hob2, of_, hnf, hix⟩ := om.o.at_ HO.out (by have := HFL.out; omega)
  have hixi := hix i (by have := HFL.out; omega)
  obtain ⟨ad, bd, y, it, m2, ib, m3, hab, hbb⟩ := OwnT.at2 om.t HT.out HKI.out
  have lx : ∀ ty W, (Builtin.len_ #[70] ty #[.slice (some ⟨gf, 0, none⟩) nf cf]).run Try.prog W = .ok (.int .i64 (nf : Int)) W := by
    intro ty W; simp [Builtin.len_, run_underlying Try.underlying70]; rfl
  have hcase : ¬ (i : Int) < 0 ∧ ¬ nf ≤ i ∧ ¬ (nf : Int) ≤ (i : Int) := by have := HFL.out; omega
  obtain ⟨n1, n3, n4⟩ := hcase
  clear hix hnf
  go_upto_region 5 with (fail)
  rw [HQ.out] at m0
  refine wp_gen (fun Wv => Bx Wv (wa3.heap.size) (72) (#[.int .i64 (q : Int), .slice (some ⟨gf, 0, none⟩) nf cf]) ∧ Below wa3.heap.size wa3 Wv) ⟨((Bx.at_ (by simp))), ((Below.refl _ wa3).alloc (by simp <;> omega) _)⟩ ?_
  rintro wa4 ⟨g5, b⟩
  try clear c_g1 f_g1 a_g1 d_g1 e_g1
  replace g1 := g1.below b; have c_g1 := g1.cell; have f_g1 := g1.free; have a_g1 := fun o => (g1.alloc o).cell; have d_g1 := fun o o2 => ((g1.alloc o).alloc o2).cell; have e_g1 := fun o => (g1.alloc o).free; try clear c_g2 f_g2 a_g2 d_g2 e_g2
  replace g2 := g2.below b; have c_g2 := g2.cell; have f_g2 := g2.free; have a_g2 := fun o => (g2.alloc o).cell; have d_g2 := fun o o2 => ((g2.alloc o).alloc o2).cell; have e_g2 := fun o => (g2.alloc o).free; try clear c_g3 f_g3 a_g3 d_g3 e_g3
  replace g3 := g3.below b; have c_g3 := g3.cell; have f_g3 := g3.free; have a_g3 := fun o => (g3.alloc o).cell; have d_g3 := fun o o2 => ((g3.alloc o).alloc o2).cell; have e_g3 := fun o => (g3.alloc o).free; try clear c_g4 f_g4 a_g4 d_g4 e_g4
  replace g4 := g4.below b; have c_g4 := g4.cell; have f_g4 := g4.free; have a_g4 := fun o => (g4.alloc o).cell; have d_g4 := fun o o2 => ((g4.alloc o).alloc o2).cell; have e_g4 := fun o => (g4.alloc o).free; replace om := om.below b; replace of_ := of_.below b; replace m2 := cell_later b m2; replace m3 := cell_later b m3; replace B := B.trans (b.mono B.size); clear b
  have c_g5 := g5.cell; have f_g5 := g5.free; have a_g5 := fun o => (g5.alloc o).cell; have d_g5 := fun o o2 => ((g5.alloc o).alloc o2).cell; have e_g5 := fun o => (g5.alloc o).free
  clear m0 m1
  go_upto_region 7 with (fail)
  have HG := Lib.hid (And.intro g3 (And.intro om (And.intro of_ B)))
  have hp3 := g4.lt; have hp4 := g5.lt
  have hne4 : wa2.heap.size ≠ w.heap.size + 1 + 1 := by omega
  have hne5 : wa3.heap.size ≠ w.heap.size + 1 + 1 := by omega
  have AL : ∀ d, d ≤ 1 → Bx ((wsF wa4 (w.heap.size + 1 + 1) (.slice tA tn tc) (.slice oA on oc) (.slice sA sn sc)) d) wa2.heap.size 26 #[.slice tA tn tc, .slice oA on oc, .slice sA sn sc] ∧ Bx ((wsF wa4 (w.heap.size + 1 + 1) (.slice tA tn tc) (.slice oA on oc) (.slice sA sn sc)) d) wa3.heap.size 72 #[.int .i64 (q : Int), .slice (some ⟨gf, 0, none⟩) nf cf] ∧ ((wsF wa4 (w.heap.size + 1 + 1) (.slice tA tn tc) (.slice oA on oc) (.slice sA sn sc)) d).cell? ad = some y ∧ ((wsF wa4 (w.heap.size + 1 + 1) (.slice tA tn tc) (.slice oA on oc) (.slice sA sn sc)) d).cell? bd = some (.int .u8 kd.toNat) := by
    intro d hd
    rcases d with _ | d
    · exact ⟨g4, g5, m2, m3⟩
    · refine ⟨?_, ?_, ?_, ?_⟩
      · exact ((g4.far (p := ⟨w.heap.size + 1 + 1, 0, none⟩) hne4 _).far (p := ⟨w.heap.size + 1 + 1, 1, none⟩) hne4 _).far (p := ⟨w.heap.size + 1 + 1, 2, none⟩) hne4 _
      · exact ((g5.far (p := ⟨w.heap.size + 1 + 1, 0, none⟩) hne5 _).far (p := ⟨w.heap.size + 1 + 1, 1, none⟩) hne5 _).far (p := ⟨w.heap.size + 1 + 1, 2, none⟩) hne5 _
      · exact cell_far (cell_far (cell_far m2 (by show _ ≠ w.heap.size + 1 + 1; omega)) (by show _ ≠ w.heap.size + 1 + 1; omega)) (by show _ ≠ w.heap.size + 1 + 1; omega)
      · exact cell_far (cell_far (cell_far m3 (by show _ ≠ w.heap.size + 1 + 1; omega)) (by show _ ≠ w.heap.size + 1 + 1; omega)) (by show _ ≠ w.heap.size + 1 + 1; omega)
  have AA := Lib.hid (fun x : FXN (FL [14] (wsF wa4 (w.heap.size + 1 + 1) (.slice tA tn tc) (.slice oA on oc) (.slice sA sn sc)) 14 1) => FL.all (ks := [14]) (Ws := (wsF wa4 (w.heap.size + 1 + 1) (.slice tA tn tc) (.slice oA on oc) (.slice sA sn sc))) (p := fun W => Bx W wa2.heap.size 26 #[.slice tA tn tc, .slice oA on oc, .slice sA sn sc] ∧ Bx W wa3.heap.size 72 #[.int .i64 (q : Int), .slice (some ⟨gf, 0, none⟩) nf cf] ∧ W.cell? ad = some y ∧ W.cell? bd = some (.int .u8 kd.toNat)) AL x)
  have ca := fun x : FXN (FL [14] (wsF wa4 (w.heap.size + 1 + 1) (.slice tA tn tc) (.slice oA on oc) (.slice sA sn sc)) 14 1) => (AA.out x).1.cell
  have cb := fun x : FXN (FL [14] (wsF wa4 (w.heap.size + 1 + 1) (.slice tA tn tc) (.slice oA on oc) (.slice sA sn sc)) 14 1) => (AA.out x).2.1.cell
  have cc := fun x : FXN (FL [14] (wsF wa4 (w.heap.size + 1 + 1) (.slice tA tn tc) (.slice oA on oc) (.slice sA sn sc)) 14 1) => (AA.out x).2.2.1
  have cd := fun x : FXN (FL [14] (wsF wa4 (w.heap.size + 1 + 1) (.slice tA tn tc) (.slice oA on oc) (.slice sA sn sc)) 14 1) => (AA.out x).2.2.2
  haveI : Nonempty (FXN (FL [14] (wsF wa4 (w.heap.size + 1 + 1) (.slice tA tn tc) (.slice oA on oc) (.slice sA sn sc)) 14 1)) := ⟨⟨_, _, FL.start⟩⟩
  clear m2 m3 c_g1 c_g2 f_g1 f_g2 a_g1 a_g2 d_g1 d_g2 e_g1 e_g2 c_g4 f_g4 a_g4 d_g4 e_g4 c_g5 f_g5 a_g5 d_g5 e_g5 a_g3 d_g3 e_g3
  refine wp_region_N (FL [14] (wsF wa4 (w.heap.size + 1 + 1) (.slice tA tn tc) (.slice oA on oc) (.slice sA sn sc)) 14 1) [14, 14] FL.dep (by kernel_rfl) (by kernel_rfl) (by kernel_rfl) FL.start ?_
  iterate 14 (refine wpN_read FL.dep rfl (by decide) ?_; go_big_quiet_step (fail); refine wpQuiet_nil ?_)
  refine wpN_storeD FL.dep rfl 26 (.tmp 6) (.tmp 40) rfl (by rfl) (p := .pointer (some ⟨w.heap.size + 1 + 1, 0, none⟩)) (u := .agg #[.slice tA tn tc, .slice oA on oc, .slice sA sn sc]) (by rfl) (by rfl) [] (by kernel_rfl) (fun f W hF h0 h1 => ?_) ?_
  · obtain ⟨rfl, h2⟩ := FL.step (i := 0) rfl (by decide) hF h0 (by intro p hp; omega) (by omega)
    refine ⟨_, ?_, h2⟩
    simp [go_sem, wsF, c_g3, f_g3]
  simp only [Act.put, List.setIfInBounds_toArray, List.set_cons_zero, List.set_cons_succ]
  iterate 3 (refine wpN_read FL.dep rfl (by decide) ?_; go_big_quiet_step (fail); refine wpQuiet_nil ?_)
  show ∀ w', _ → _
  intro w' hw'
  obtain rfl := FL.done hw'
  have g3d : Bx wa4.drew (w.heap.size + 1 + 1) 26 #[.slice none 0 0, .slice none 0 0, .slice none 0 0] := g3
  have omd : OwnM wa4.drew wa1.heap.size 67 (.slice tA tn tc) (.slice oA on oc) (.slice sA sn sc) m := ⟨om.t, om.o, om.s⟩
  have ofd : OwnF wa4.drew wa1.heap.size (.slice oA on oc) m.objs n2 gf := of_
  have Bd := B.drew
  have HM := Lib.hid (OwnM.set3 (a := .slice tA tn tc) (b := .slice oA on oc) (c := .slice sA sn sc) (OwnM.mono omd hz1) g3d)
  have HF := Lib.hid ((((OwnF.mono ofd hz1).set (i := 0) (u := .slice tA tn tc) g3d (by decide) (by decide)).set (i := 1) (u := .slice oA on oc) (g3d.set (i := 0) (.slice tA tn tc)) (by decide) (by decide)).set (i := 2) (u := .slice sA sn sc) ((g3d.set (i := 0) (.slice tA tn tc)).set (i := 1) (.slice oA on oc)) (by decide) (by decide))
  have BB := Lib.hid (((Bd.setCell (p := ⟨w.heap.size + 1 + 1, 0, none⟩) (by simp; omega) (.slice tA tn tc)).setCell (p := ⟨w.heap.size + 1 + 1, 1, none⟩) (by simp; omega) (.slice oA on oc)).setCell (p := ⟨w.heap.size + 1 + 1, 2, none⟩) (by simp; omega) (.slice sA sn sc))
  have g3' := ((g3d.set (i := 0) (.slice tA tn tc)).set (i := 1) (.slice oA on oc)).set (i := 2) (.slice sA sn sc)
  have c3' := g3'.cell
  clear omd ofd Bd g3d this ca cb cc cd AL AA om of_ g1 g2 g3 g4 g5 B hw' HG c_g3 f_g3
  show _
  generalize hW : (((wa4.drew.setCell ⟨w.heap.size + 1 + 1, 0, none⟩ (.slice tA tn tc)).setCell ⟨w.heap.size + 1 + 1, 1, none⟩ (.slice oA on oc)).setCell ⟨w.heap.size + 1 + 1, 2, none⟩ (.slice sA sn sc)) = W4 at c3' HM HF BB
  have hw4 : (wsF wa4 (w.heap.size + 1 + 1) (.slice tA tn tc) (.slice oA on oc) (.slice sA sn sc)) [14].length = W4 := hW
  rw [hw4]
  clear hW hw4 g3'
  go_wp2
  refine bodyPost_ret (v := .tuple #[.agg #[.slice tA tn tc, .slice oA on oc, .slice sA sn sc], .pointer (some ⟨gf, i, none⟩), .int .u8 kd.toNat, .int .i64 0]) (by simp [results, Try.results39, go_sem, c3']) rfl ?_
  exact ⟨_, _, _, _, rfl, HM.out, HF.out, BB.out⟩
end Go.Proofs.Ytgjpohhafmkhcaa
