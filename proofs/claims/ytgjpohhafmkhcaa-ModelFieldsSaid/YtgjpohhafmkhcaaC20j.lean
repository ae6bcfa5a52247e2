/- Contracts of models: a copy, the reference. -/
import Derived.Test.YtgjpohhafmkhcaaC20i
set_option linter.unusedVariables false
set_option linter.unusedSimpArgs false
namespace Go.Proofs.Ytgjpohhafmkhcaa
open Go.RowKit L02 L13 L18 L20

/-- the worlds of a round of Twin that copies one type -/
def wtT (w : World) (p : Nat) (y v : Value) (W2 W4 : World) : Nat → World
  | 0 => w.drew
  | 1 => w.drew.alloc (.cells #[] 5)
  | 2 => W2
  | 3 => W2.alloc (.cells #[y] 74)
  | 4 => W4
  | _ => W4.setCell ⟨p, 0, none⟩ v
/-- .. one object -/
def wtO (w : World) (p : Nat) (ty : Int) (y v : Value) (W2 W4 : World) : Nat → World
  | 0 => w.drew
  | 1 => w.drew.alloc (.cells #[] 29)
  | 2 => W2
  | 3 => W2
  | 4 => W2.alloc (.cells #[i64 ty, y] 72)
  | 5 => W4
  | _ => W4.setCell ⟨p, 1, none⟩ v

set_option maxRecDepth 100000 in
set_option maxHeartbeats 4000000 in
theorem Twin_any (tv ov sv : Value) (m : Mo) (hsm : Small m) (w : World) (h : Mod w tv ov sv m) :
    Calls Try.prog 10 #[.agg #[tv, ov, sv]] w fun e w' => ∃ tv' ov' sv', e = .returned (.agg #[tv', ov', sv']) ∧ OwnM w' w.heap.size 67 tv' ov' sv' m ∧ Below w.heap.size w w' := by
  have B : Below w.heap.size w w := Below.refl _ _
  have lt := h.t.len; have lo := h.o.len
  obtain ⟨NT, hNT⟩ : ∃ N, N = m.types.length := ⟨_, rfl⟩
  obtain ⟨NO, hNO⟩ : ∃ N, N = m.objs.length := ⟨_, rfl⟩
  rw [← hNT] at lt; rw [← hNO] at lo
  obtain ⟨s1, s2, s3, s4, s5⟩ := hsm
  have hNT20 : NT ≤ 20 := by omega
  have hNO962 : NO ≤ 962 := by omega
  have H := Lib.hid h; have HNT := Lib.hid hNT; have HNO := Lib.hid hNO; have S3 := Lib.hid s3; have S4 := Lib.hid s4; have S5 := Lib.hid s5
  clear h hNT hNO s4 s5 s1 s2 s3
  go_enter Try.func10, Try.ntmps10
  go_upto_region 2 with (fail)
  refine wp_gen (fun Wv => Bx Wv (w.heap.size) (26) (#[tv, ov, sv]) ∧ Bx Wv (w.heap.size + 1) (26) (#[.slice none 0 0, .slice none 0 0, .slice none 0 0]) ∧ Bx Wv (w.heap.size + 1 + 1) (26) (#[.slice none 0 0, .slice none 0 0, .slice none 0 0]) ∧ Below w.heap.size w Wv) ⟨((((Bx.at_ (by simp)).alloc _).alloc _)), (((Bx.at_ (by simp)).alloc _)), ((Bx.at_ (by simp))), ((((Below.refl _ w).alloc (by simp <;> omega) _).alloc (by simp <;> omega) _).alloc (by simp <;> omega) _)⟩ ?_
  rintro wa1 ⟨g1, g2, g3, b⟩
  replace B := B.trans (b.mono B.size); clear b
  have c_g1 := g1.cell; have f_g1 := g1.free; have a_g1 := fun o => (g1.alloc o).cell; have d_g1 := fun o o2 => ((g1.alloc o).alloc o2).cell; have e_g1 := fun o => (g1.alloc o).free
  have c_g2 := g2.cell; have f_g2 := g2.free; have a_g2 := fun o => (g2.alloc o).cell; have d_g2 := fun o o2 => ((g2.alloc o).alloc o2).cell; have e_g2 := fun o => (g2.alloc o).free
  have c_g3 := g3.cell; have f_g3 := g3.free; have a_g3 := fun o => (g3.alloc o).cell; have d_g3 := fun o o2 => ((g3.alloc o).alloc o2).cell; have e_g3 := fun o => (g3.alloc o).free
  generalize hpp : w.heap.size + 1 + 1 = p at *
  have hB0 : w.heap.size + 2 = p := by omega
  clear hpp
  have HB := Lib.hid B; have HG := Lib.hid (And.intro g1 (And.intro g2 g3))
  clear B g1 g2 g3 c_g1 c_g2 f_g1 f_g2 a_g1 a_g2 d_g1 d_g2 e_g1 e_g2 c_g3 f_g3 a_g3 d_g3 e_g3
  have hwa := HG.out.1.cell
  go_wp2
  clear hwa
  go_loopg [4] NT (fun g i wr => ∃ j : Nat, j ≤ NT ∧ g = NT - j ∧ i = .int .i64 j ∧ Hid (∃ xt, OwnT wr w.heap.size xt (m.types.take j) ∧ Bx wr w.heap.size 26 #[tv, ov, sv] ∧ Bx wr (w.heap.size + 1) 26 #[.slice none 0 0, .slice none 0 0, .slice none 0 0] ∧ Bx wr p 26 #[xt, .slice none 0 0, .slice none 0 0] ∧ Below w.heap.size w wr))
  case atStart => exact ⟨0, by omega, by omega, rfl, Lib.hid ⟨_, OwnT.nil _ _, HG.out.1, HG.out.2.1, HG.out.2.2, HB.out⟩⟩
  case round =>
    clear HG HB
    obtain ⟨j, hj, rfl, rfl, hh⟩ := hrel
    by_cases hlt : j < NT
    · obtain ⟨xt, oT, q1, q2, q3, B⟩ := hh.out
      obtain ⟨ad, x, t, ix, m0, ht, hby⟩ := H.out.t.at_ (k := j) (by have := HNT.out; omega)
      have htl : t.length ≤ 20 := S4.out t (List.mem_of_getElem? ht.out)
      obtain ⟨vs, z1, z2, z4⟩ := oT
      have hB := B.size
      have htk : (m.types.take j).length = j := by rw [List.length_take]; have := HNT.out; omega
      have c1 := q1.cell
      go_upto_region 5 with (fail)
      have HT := Lib.hid ht
      clear hh
      have b1 : Below wr.heap.size wr (wr.drew.alloc (.cells #[] 5)) := ((Below.refl _ wr).drew).alloc (Nat.le_refl _) _
      have r1 := run_lit0 (P := Try.prog) (t := 74) (e := 5) wr.drew Try.underlying74 (by kernel_rfl)
      replace r1 : (Instr.buildSlice 74 0 #[]).run Try.prog wr.drew = .ok (.slice (some ⟨wr.heap.size, 0, none⟩) 0 0) (wr.drew.alloc (.cells #[] 5)) := r1
      obtain ⟨y, W2, r2, o2, gr2⟩ := run_append_rd (P := Try.prog) (w := wr.drew.alloc (.cells #[] 5)) (ty := 74) Try.underlying74 info_u8 rfl (by omega) (lit0_own (B := wr.heap.size) (w := wr.drew) (e := 5) (sz := 1) (Nat.le_refl _)) (hby.out.below (B.trans (b1.mono hB))) (one_u8s _) (by omega) (by omega) b1.size
      replace r2 : (Builtin.append_ #[74, 74] 74 #[.slice (some ⟨wr.heap.size, 0, none⟩) 0 0, x]).run Try.prog (wr.drew.alloc (.cells #[] 5)) = .ok y W2 := r2
      have b2 : Below wr.heap.size wr W2 := b1.grown gr2 b1.size (fun k hk => (lit0_own (B := wr.heap.size) (w := wr.drew) (e := 5) (sz := 1) (Nat.le_refl _) |>.lt k hk).1)
      have oy : OwnB W2 wr.heap.size 5 y t := OwnB.of o2 (by simp)
      have hz := b2.size
      obtain ⟨v, W4, r3, o3, gr3⟩ := run_append_rd (P := Try.prog) (w := W2.alloc (.cells #[y] 74)) (ty := 22) (B := w.heap.size) Try.underlying22 info_bytes rfl (by omega) (own_below z2 (b2.alloc hz _)) lit_rd (by intro u hu; simp at hu; subst hu; exact (OwnB.rd oy).oneCell) (by omega) (by omega) (by simp; omega)
      rw [htk] at o3
      -- (slots: none yet)
      have oS0 : OwnS wr w.heap.size 67 (.slice none 0 0) [] := OwnS.nil _ _ _
      have MM := Lib.hid (copyT_mem (t := t) (a := w.heap.size) (b := w.heap.size + 1) (p := p) z1 z2 z4 oy b2 o3 gr3 q1 q2 q3 oS0 B hB (by omega) (by omega) (by omega) (Nat.le_refl _))
      have b3 := b2.alloc hz (.cells #[y] 74)
      have q14 : Bx W4 w.heap.size 26 #[tv, ov, sv] := Bx.grown (q1.below b3) gr3 (own_not_bx (own_below z2 b3) (q1.below b3) (by decide))
      have B4 : Below w.heap.size w W4 := (B.trans (b3.mono hB)).grown gr3 (Nat.le_trans hB b3.size) (fun k hk => ((own_below z2 b3).lt k hk).1)
      obtain ⟨yyA, yyn, yyc, rfl⟩ : ∃ A n c, y = .slice A n c := by obtain ⟨A, c, e⟩ := own_form' oy; exact ⟨A, _, c, e⟩
      obtain ⟨vA, vn, vc, rfl⟩ : ∃ A n c, v = .slice A n c := by obtain ⟨A, c, e⟩ := own_form' o3; exact ⟨A, _, c, e⟩
      have AL : ∀ d, d ≤ 5 → Below w.heap.size w (wtT wr p (.slice yyA yyn yyc) (.slice vA vn vc) W2 W4 d) ∧ Bx (wtT wr p (.slice yyA yyn yyc) (.slice vA vn vc) W2 W4 d) w.heap.size 26 #[tv, ov, sv] := by
        intro d hd
        rcases d with _ | _ | _ | _ | _ | d
        · exact ⟨B.drew, q1⟩
        · exact ⟨B.trans (b1.mono hB), q1.below b1⟩
        · exact ⟨B.trans (b2.mono hB), q1.below b2⟩
        · exact ⟨B.trans (b3.mono hB), q1.below b3⟩
        · exact ⟨B4, q14⟩
        · exact ⟨MM.out.2.2.2.2.2.2, MM.out.2.2.1⟩
      have ca := fun x : FXN (FL [2, 8, 9, 10, 12] (wtT wr p (.slice yyA yyn yyc) (.slice vA vn vc) W2 W4) 1 3) => (FL.all (ks := [2, 8, 9, 10, 12]) (Ws := wtT wr p (.slice yyA yyn yyc) (.slice vA vn vc) W2 W4) (p := fun W => Below w.heap.size w W ∧ Bx W w.heap.size 26 #[tv, ov, sv]) AL x).2.cell
      have cb := fun y : FXN (FL [2, 8, 9, 10, 12] (wtT wr p (.slice yyA yyn yyc) (.slice vA vn vc) W2 W4) 1 3) => cell_later (FL.all (ks := [2, 8, 9, 10, 12]) (Ws := wtT wr p (.slice yyA yyn yyc) (.slice vA vn vc) W2 W4) (p := fun W => Below w.heap.size w W ∧ Bx W w.heap.size 26 #[tv, ov, sv]) AL y).1 m0
      have p0 := q3.cell 0; have p1 := (q3.below b1).cell 0; have p2 := (q3.below b2).cell 0; have p3 := (q3.below b3).cell 0
      haveI : Nonempty (FXN (FL [2, 8, 9, 10, 12] (wtT wr p (.slice yyA yyn yyc) (.slice vA vn vc) W2 W4) 1 3)) := ⟨⟨_, _, FL.start⟩⟩
      clear c1
      refine wp_region_N (FL [2, 8, 9, 10, 12] (wtT wr p (.slice yyA yyn yyc) (.slice vA vn vc) W2 W4) 1 3) [1, 2, 8, 9, 10, 12] FL.dep (by kernel_rfl) (by kernel_rfl) (by kernel_rfl) FL.start ?_
      refine wpN_read FL.dep rfl (by decide) ?_; go_big_quiet_step (fail); refine wpQuiet_nil ?_
      refine wpN_step FL.dep rfl (by rfl) (v := xt) [] rfl (fun f W hF h0 _ => ?_) ?_
      · obtain ⟨⟨d, hd, hd2, rfl⟩, hF'⟩ := FL.read (by decide) hF h0
        refine ⟨_, ?_, hF'⟩
        have hc : (wtT wr p (.slice yyA yyn yyc) (.slice vA vn vc) W2 W4 d).cell? ⟨p, 0, none⟩ = some xt := by
          rcases d with _ | _ | _ | _ | d
          · exact p0
          · exact p1
          · exact p2
          · exact p3
          · omega
        simp [execOp, go_sem, hc]
      simp only [Act.put, List.setIfInBounds_toArray, List.set_cons_zero, List.set_cons_succ]
      refine wpN_step FL.dep rfl (by rfl) (v := .slice (some ⟨wr.heap.size, 0, none⟩) 0 0) [] (by kernel_rfl) (fun f W hF h0 h1 => ?_) ?_
      · obtain ⟨rfl, h2⟩ := FL.step (i := 0) rfl (by decide) hF h0 (by intro p hp; omega) (by omega)
        exact ⟨_, by simp [execOp, wtT, r1], h2⟩
      simp only [Act.put, List.setIfInBounds_toArray, List.set_cons_zero, List.set_cons_succ]
      iterate 5 (refine wpN_read FL.dep rfl (by decide) ?_; go_big_quiet_step (fail); refine wpQuiet_nil ?_)
      refine wpN_step FL.dep rfl (by rfl) (v := .slice yyA yyn yyc) [2] (by kernel_rfl) (fun f W hF h0 h1 => ?_) ?_
      · obtain ⟨rfl, h2⟩ := FL.step (i := 1) rfl (by decide) hF h0 (FL.prev (p := 0) (q := 2) rfl (h1 2 (by simp))) (by omega)
        exact ⟨_, by simp [execOp, resolve, invoke, builtin, Act.eval, wtT, r2], h2⟩
      simp only [Act.put, List.setIfInBounds_toArray, List.set_cons_zero, List.set_cons_succ]
      refine wpN_step FL.dep rfl (by rfl) (v := .slice (some ⟨W2.heap.size, 0, none⟩) 1 1) [8] (by kernel_rfl) (fun f W hF h0 h1 => ?_) ?_
      · obtain ⟨rfl, h2⟩ := FL.step (i := 2) rfl (by decide) hF h0 (FL.prev (p := 1) (q := 8) rfl (h1 8 (by simp))) (by omega)
        exact ⟨_, by simp [execOp, go_sem, wtT], h2⟩
      simp only [Act.put, List.setIfInBounds_toArray, List.set_cons_zero, List.set_cons_succ]
      refine wpN_step FL.dep rfl (by rfl) (v := .slice vA vn vc) [9, 1] (by kernel_rfl) (fun f W hF h0 h1 => ?_) ?_
      · obtain ⟨rfl, h2⟩ := FL.step (i := 3) rfl (by decide) hF h0 (FL.prev (p := 2) (q := 9) rfl (h1 9 (by simp))) (fun _ => h1 1 (by simp))
        exact ⟨_, by simp [execOp, resolve, invoke, builtin, Act.eval, wtT, r3], h2⟩
      simp only [Act.put, List.setIfInBounds_toArray, List.set_cons_zero, List.set_cons_succ]
      refine wpN_read FL.dep rfl (by decide) ?_; go_big_quiet_step (fail); refine wpQuiet_nil ?_
      refine wpN_storeD FL.dep rfl 22 (.tmp 24) (.tmp 23) rfl (by rfl) (p := .pointer (some ⟨p, 0, none⟩)) (u := .slice vA vn vc) (by rfl) (by rfl) [10] (by kernel_rfl) (fun f W hF h0 h1 => ?_) ?_
      · obtain ⟨rfl, h2⟩ := FL.step (i := 4) rfl (by decide) hF h0 (FL.prev (p := 3) (q := 10) rfl (h1 10 (by simp))) (by omega)
        refine ⟨_, ?_, h2⟩
        have hc := MM.out.1.1; have hf := MM.out.1.2
        simp [go_sem, wtT, hc, hf]
      show ∀ w', _ → _
      intro w' hw'
      obtain rfl := FL.done hw'
      have HM := Lib.hid (MM.out.2)
      clear this MM q1 q2 q3 oS0 B z1 z2 z4 hw' r1 r2 r3 oy b1 b2 b3 p0 p1 p2 p3 AL ca cb q14 B4 o2 o3 gr2 gr3 m0
      go_wp2
      go_roundg (NT - (j + 1))
      case measure => omega
      case rel =>
        obtain ⟨k1, k2, k3, k4, _, k6⟩ := HM.out
        refine ⟨j + 1, by omega, rfl, by go_num, Lib.hid ⟨_, ?_, k2, k3, k4, k6⟩⟩
        rwa [List.take_add_one, HT.out.out]
    · obtain rfl : j = NT := by omega
      obtain ⟨xt, oT, q1, q2, q3, B⟩ := hh.out
      rw [List.take_of_length_le (by have := HNT.out; omega)] at oT
      clear hh
      have hwa := q1.cell
      have HG := Lib.hid (And.intro q1 (And.intro q2 (And.intro q3 oT))); have HB := Lib.hid B
      clear q1 q2 q3 oT B
      go_wp2
      clear hwa
      go_loopg [5] NO (fun g i wr => ∃ k : Nat, k ≤ NO ∧ g = NO - k ∧ i = .int .i64 k ∧ Hid (∃ ot, OwnO wr w.heap.size ot (m.objs.take k) ∧ Bx wr w.heap.size 26 #[tv, ov, sv] ∧ Bx wr (w.heap.size + 1) 26 #[.slice none 0 0, .slice none 0 0, .slice none 0 0] ∧ Bx wr p 26 #[xt, ot, .slice none 0 0] ∧ OwnT wr w.heap.size xt m.types ∧ Below w.heap.size w wr))
      case atStart => exact ⟨0, by omega, by omega, rfl, Lib.hid ⟨_, OwnO.nil _ _, HG.out.1, HG.out.2.1, HG.out.2.2.1, HG.out.2.2.2, HB.out⟩⟩
      case round =>
        clear HG HB
        obtain ⟨k, hk, rfl, rfl, hh⟩ := hrel
        by_cases hltk : k < NO
        · obtain ⟨ot, oO, q1, q2, q3, oT, B⟩ := hh.out
          obtain ⟨ob, oq, x, o, ix, m0, m1, ho, hx, hob⟩ := H.out.o.at_ (k := k) (by have := HNO.out; omega)
          have hol : o.fs.length ≤ 20 := S5.out o (List.mem_of_getElem? ho.out)
          have hxx := hx.out
          have htk : (m.objs.take k).length = k := by rw [List.length_take]; have := HNO.out; omega
          obtain ⟨xA, xn, xc, rfl⟩ : ∃ A n c, x = .slice A n c := by obtain ⟨A, c, e, _⟩ := hxx; exact ⟨A, _, c, e⟩
          obtain ⟨vs, z1, z2, z4, z5⟩ := oO
          have hB := B.size
          have c1 := q1.cell
          go_upto_region 9 with (fail)
          have HT := Lib.hid ho
          clear hh hx
          have b1 : Below wr.heap.size wr (wr.drew.alloc (.cells #[] 29)) := ((Below.refl _ wr).drew).alloc (Nat.le_refl _) _
          have r1 := run_lit0 (P := Try.prog) (t := 70) (e := 29) wr.drew Try.underlying70 (by kernel_rfl)
          replace r1 : (Instr.buildSlice 70 0 #[]).run Try.prog wr.drew = .ok (.slice (some ⟨wr.heap.size, 0, none⟩) 0 0) (wr.drew.alloc (.cells #[] 29)) := r1
          obtain ⟨y, W2, r2, o2, gr2⟩ := run_append_rd (P := Try.prog) (w := wr.drew.alloc (.cells #[] 29)) (ty := 70) Try.underlying70 info_u64 rfl (by omega) (lit0_own (B := wr.heap.size) (w := wr.drew) (e := 29) (sz := 1) (Nat.le_refl _)) (hxx.below (B.trans (b1.mono hB))) (one_u64s _) (by omega) (by omega) b1.size
          replace r2 : (Builtin.append_ #[70, 70] 70 #[.slice (some ⟨wr.heap.size, 0, none⟩) 0 0, .slice xA xn xc]).run Try.prog (wr.drew.alloc (.cells #[] 29)) = .ok y W2 := r2
          have b2 : Below wr.heap.size wr W2 := b1.grown gr2 b1.size (fun k hk => (lit0_own (B := wr.heap.size) (w := wr.drew) (e := 29) (sz := 1) (Nat.le_refl _) |>.lt k hk).1)
          have oy : OwnW W2 wr.heap.size 29 y o.fs := OwnW.of o2 (by simp)
          have hz := b2.size
          obtain ⟨v, W4, r3, o3, gr3⟩ := run_append_rd (P := Try.prog) (w := W2.alloc (.cells #[i64 o.ty, y] 72)) (ty := 23) (B := w.heap.size) Try.underlying23 info_obj rfl (by omega) (own_below z2 (b2.alloc hz _)) lit_obj (one_obj (OwnW.rd oy).oneCell) (by omega) (by omega) (by simp; omega)
          rw [htk] at o3
          have oS0 : OwnS wr w.heap.size 67 (.slice none 0 0) [] := OwnS.nil _ _ _
          have hlt0 := own_not_bx z2 q1 (by decide)
          have MM := Lib.hid (copyO_mem (o := o) (a := w.heap.size) (b := w.heap.size + 1) (p := p) z1 z2 z4 z5 oy b2 o3 gr3 q1 q2 q3 oT oS0 B hB (by omega) (by omega) (by omega) q1 hlt0 (by omega))
          have b3 := b2.alloc hz (.cells #[i64 o.ty, y] 72)
          have B4 : Below w.heap.size w W4 := (B.trans (b3.mono hB)).grown gr3 (Nat.le_trans hB b3.size) (fun k hk => ((own_below z2 b3).lt k hk).1)
          obtain ⟨yyA, yyn, yyc, rfl⟩ : ∃ A n c, y = .slice A n c := by obtain ⟨A, c, e⟩ := own_form' oy; exact ⟨A, _, c, e⟩
          obtain ⟨vA, vn, vc, rfl⟩ : ∃ A n c, v = .slice A n c := by obtain ⟨A, c, e⟩ := own_form' o3; exact ⟨A, _, c, e⟩
          have AL : ∀ d, d ≤ 6 → Below w.heap.size w (wtO wr p o.ty (.slice yyA yyn yyc) (.slice vA vn vc) W2 W4 d) ∧ Bx (wtO wr p o.ty (.slice yyA yyn yyc) (.slice vA vn vc) W2 W4 d) w.heap.size 26 #[tv, ov, sv] := by
            intro d hd
            rcases d with _ | _ | _ | _ | _ | _ | d
            · exact ⟨B.drew, q1⟩
            · exact ⟨B.trans (b1.mono hB), q1.below b1⟩
            · exact ⟨B.trans (b2.mono hB), q1.below b2⟩
            · exact ⟨B.trans (b2.mono hB), q1.below b2⟩
            · exact ⟨B.trans (b3.mono hB), q1.below b3⟩
            · exact ⟨B4, MM.out.2.2.2.2.2.2.2.2.1⟩
            · exact ⟨MM.out.2.2.2.2.2.2.2.1, MM.out.2.2.1⟩
          have ca := fun x : FXN (FL [8, 15, 16, 17, 18, 20] (wtO wr p o.ty (.slice yyA yyn yyc) (.slice vA vn vc) W2 W4) 1 4) => (FL.all (ks := [8, 15, 16, 17, 18, 20]) (Ws := wtO wr p o.ty (.slice yyA yyn yyc) (.slice vA vn vc) W2 W4) (p := fun W => Below w.heap.size w W ∧ Bx W w.heap.size 26 #[tv, ov, sv]) AL x).2.cell
          have cb := fun y : FXN (FL [8, 15, 16, 17, 18, 20] (wtO wr p o.ty (.slice yyA yyn yyc) (.slice vA vn vc) W2 W4) 1 4) => cell_later (FL.all (ks := [8, 15, 16, 17, 18, 20]) (Ws := wtO wr p o.ty (.slice yyA yyn yyc) (.slice vA vn vc) W2 W4) (p := fun W => Below w.heap.size w W ∧ Bx W w.heap.size 26 #[tv, ov, sv]) AL y).1 m0
          have cc := fun y : FXN (FL [8, 15, 16, 17, 18, 20] (wtO wr p o.ty (.slice yyA yyn yyc) (.slice vA vn vc) W2 W4) 1 4) => cell_later (FL.all (ks := [8, 15, 16, 17, 18, 20]) (Ws := wtO wr p o.ty (.slice yyA yyn yyc) (.slice vA vn vc) W2 W4) (p := fun W => Below w.heap.size w W ∧ Bx W w.heap.size 26 #[tv, ov, sv]) AL y).1 m1
          have p0 := q3.cell 1; have p1 := (q3.below b1).cell 1; have p2 := (q3.below b2).cell 1; have p3 := (q3.below b3).cell 1
          haveI : Nonempty (FXN (FL [8, 15, 16, 17, 18, 20] (wtO wr p o.ty (.slice yyA yyn yyc) (.slice vA vn vc) W2 W4) 1 4)) := ⟨⟨_, _, FL.start⟩⟩
          clear c1
          refine wp_region_N (FL [8, 15, 16, 17, 18, 20] (wtO wr p o.ty (.slice yyA yyn yyc) (.slice vA vn vc) W2 W4) 1 4) [1, 8, 15, 16, 17, 18, 20] FL.dep (by kernel_rfl) (by kernel_rfl) (by kernel_rfl) FL.start ?_
          refine wpN_read FL.dep rfl (by decide) ?_; go_big_quiet_step (fail); refine wpQuiet_nil ?_
          refine wpN_step FL.dep rfl (by rfl) (v := ot) [] rfl (fun f W hF h0 _ => ?_) ?_
          · obtain ⟨⟨d, hd, hd2, rfl⟩, hF'⟩ := FL.read (by decide) hF h0
            refine ⟨_, ?_, hF'⟩
            have hc : (wtO wr p o.ty (.slice yyA yyn yyc) (.slice vA vn vc) W2 W4 d).cell? ⟨p, 1, none⟩ = some ot := by
              rcases d with _ | _ | _ | _ | _ | d
              · exact p0
              · exact p1
              · exact p2
              · exact p2
              · exact p3
              · omega
            simp [execOp, go_sem, hc]
          simp only [Act.put, List.setIfInBounds_toArray, List.set_cons_zero, List.set_cons_succ]
          iterate 6 (refine wpN_read FL.dep rfl (by decide) ?_; go_big_quiet_step (fail); refine wpQuiet_nil ?_)
          refine wpN_step FL.dep rfl (by rfl) (v := .slice (some ⟨wr.heap.size, 0, none⟩) 0 0) [] (by kernel_rfl) (fun f W hF h0 h1 => ?_) ?_
          · obtain ⟨rfl, h2⟩ := FL.step (i := 0) rfl (by decide) hF h0 (by intro p hp; omega) (by omega)
            exact ⟨_, by simp [execOp, wtO, r1], h2⟩
          simp only [Act.put, List.setIfInBounds_toArray, List.set_cons_zero, List.set_cons_succ]
          iterate 6 (refine wpN_read FL.dep rfl (by decide) ?_; go_big_quiet_step (fail); refine wpQuiet_nil ?_)
          refine wpN_step FL.dep rfl (by rfl) (v := .slice yyA yyn yyc) [8] (by kernel_rfl) (fun f W hF h0 h1 => ?_) ?_
          · obtain ⟨rfl, h2⟩ := FL.step (i := 1) rfl (by decide) hF h0 (FL.prev (p := 0) (q := 8) rfl (h1 8 (by simp))) (by omega)
            exact ⟨_, by simp [execOp, resolve, invoke, builtin, Act.eval, wtO, r2], h2⟩
          simp only [Act.put, List.setIfInBounds_toArray, List.set_cons_zero, List.set_cons_succ]
          refine wpN_step FL.dep rfl (by rfl) (v := .agg #[i64 o.ty, .slice yyA yyn yyc]) [15] (by kernel_rfl) (fun f W hF h0 h1 => ?_) ?_
          · obtain ⟨rfl, h2⟩ := FL.step (i := 2) rfl (by decide) hF h0 (FL.prev (p := 1) (q := 15) rfl (h1 15 (by simp))) (by omega)
            exact ⟨_, by simp [execOp, go_sem, wtO, i64], h2⟩
          simp only [Act.put, List.setIfInBounds_toArray, List.set_cons_zero, List.set_cons_succ]
          refine wpN_step FL.dep rfl (by rfl) (v := .slice (some ⟨W2.heap.size, 0, none⟩) 1 1) [16] (by kernel_rfl) (fun f W hF h0 h1 => ?_) ?_
          · obtain ⟨rfl, h2⟩ := FL.step (i := 3) rfl (by decide) hF h0 (FL.prev (p := 2) (q := 16) rfl (h1 16 (by simp))) (by omega)
            exact ⟨_, by simp [execOp, go_sem, wtO, i64], h2⟩
          simp only [Act.put, List.setIfInBounds_toArray, List.set_cons_zero, List.set_cons_succ]
          refine wpN_step FL.dep rfl (by rfl) (v := .slice vA vn vc) [17, 1] (by kernel_rfl) (fun f W hF h0 h1 => ?_) ?_
          · obtain ⟨rfl, h2⟩ := FL.step (i := 4) rfl (by decide) hF h0 (FL.prev (p := 3) (q := 17) rfl (h1 17 (by simp))) (fun _ => h1 1 (by simp))
            exact ⟨_, by simp [execOp, resolve, invoke, builtin, Act.eval, wtO, r3], h2⟩
          simp only [Act.put, List.setIfInBounds_toArray, List.set_cons_zero, List.set_cons_succ]
          refine wpN_read FL.dep rfl (by decide) ?_; go_big_quiet_step (fail); refine wpQuiet_nil ?_
          refine wpN_storeD FL.dep rfl 23 (.tmp 51) (.tmp 50) rfl (by rfl) (p := .pointer (some ⟨p, 1, none⟩)) (u := .slice vA vn vc) (by rfl) (by rfl) [18] (by kernel_rfl) (fun f W hF h0 h1 => ?_) ?_
          · obtain ⟨rfl, h2⟩ := FL.step (i := 5) rfl (by decide) hF h0 (FL.prev (p := 4) (q := 18) rfl (h1 18 (by simp))) (by omega)
            refine ⟨_, ?_, h2⟩
            have hc := MM.out.1.1; have hf := MM.out.1.2
            simp [go_sem, wtO, hc, hf]
          show ∀ w', _ → _
          intro w' hw'
          obtain rfl := FL.done hw'
          have HM := Lib.hid (MM.out.2)
          clear this MM q1 q2 q3 oS0 oT B z1 z2 z4 z5 hw' r1 r2 r3 oy b1 b2 b3 p0 p1 p2 p3 AL ca cb cc B4 o2 o3 gr2 gr3 m0 m1 hxx hlt0
          go_wp2
          go_roundg (NO - (k + 1))
          case measure => omega
          case rel =>
            obtain ⟨k1, k2, k3, k4, k5, _, k7, _⟩ := HM.out
            refine ⟨k + 1, by omega, rfl, by go_num, Lib.hid ⟨_, ?_, k2, k3, k4, k5, k7⟩⟩
            rwa [List.take_add_one, HT.out.out]
        · obtain rfl : k = NO := by omega
          obtain ⟨ot, oO, q1, q2, q3, oT, B⟩ := hh.out
          rw [List.take_of_length_le (by have := HNO.out; omega)] at oO
          obtain ⟨oA, on, oc, rfl⟩ : ∃ A n c, ot = .slice A n c := by obtain ⟨vs, _, z2, _⟩ := oO; obtain ⟨A, c, e⟩ := own_form' z2; exact ⟨A, _, c, e⟩
          obtain ⟨xA, xn, xc, rfl⟩ : ∃ A n c, xt = .slice A n c := by obtain ⟨vs, _, z2, _⟩ := oT; obtain ⟨A, c, e⟩ := own_form' z2; exact ⟨A, _, c, e⟩
          have hsv := (H.out.s.below B)
          have hln := S3.out
          have c1 := q1.cell
          have HQ := Lib.hid (And.intro q1 (And.intro q2 (And.intro q3 (And.intro oT (And.intro oO B)))))
          have HS := Lib.hid hsv
          have a1 := fun o => (q1.alloc o).cell
          have hzB := B.size
          clear hh q1 q2 q3 oT oO B hsv
          go_wp2_with (at_builtin; refine wpList_append (by rfl) rfl rfl rfl Try.underlying24 info_slot rfl (by omega) (by exact lit0_own (B := wr.heap.size) (Nat.le_refl _)) (by exact HS.out.alloc _) (by exact tabL_one _) (by omega) (by omega) (by exact (Below.refl _ wr).alloc (Nat.le_refl _) _) (Nat.le_refl _) ?_; intro v1 w3 o3 B3 g3; obtain ⟨sA, sn, sc, rfl⟩ : ∃ A n c, v1 = .slice A n c := by { obtain ⟨A, c, e⟩ := own_form' o3; exact ⟨A, _, c, e⟩ }; clear g3; have c2 := (HQ.out.2.1.below B3).cell; have f2 := (HQ.out.2.1.below B3).free; have c3 := (HQ.out.2.2.1.below B3).cell; have f3 := (HQ.out.2.2.1.below B3).free)
          refine bodyPost_ret (v := .agg #[.slice xA xn xc, .slice oA on oc, .slice sA sn sc]) (by simp [results, Try.results10, go_sem, c2, c3, f2, f3]) rfl ?_
          obtain ⟨q1, q2, q3, oT, oO, B⟩ := HQ.out
          have oS : OwnS w3 w.heap.size 67 (.slice sA sn sc) m.slots := by
            have := own_mono o3 hzB
            unfold OwnS; simpa using this
          have hM : OwnM w3 w.heap.size 67 (.slice xA xn xc) (.slice oA on oc) (.slice sA sn sc) m := ⟨oT.below B3, oO.below B3, oS⟩
          have q2' := (q2.below B3).far (p := ⟨p, 2, none⟩) (by show w.heap.size + 1 ≠ p; omega) (.slice sA sn sc)
          refine ⟨_, _, _, rfl, OwnM.set3 (hM.set (q3.below B3)) q2', ?_⟩
          have B5 := (B.trans (B3.mono hzB)).setCell (p := ⟨p, 2, none⟩) (by show w.heap.size ≤ p; omega) (.slice sA sn sc)
          exact ((B5.setCell (p := ⟨w.heap.size + 1, 0, none⟩) (by simp) _).setCell (p := ⟨w.heap.size + 1, 1, none⟩) (by simp) _).setCell (p := ⟨w.heap.size + 1, 2, none⟩) (by simp) _
end Go.Proofs.Ytgjpohhafmkhcaa
