/- Contracts of the functions that the laws 'B' reach, part 16. No condition. -/
import Derived.Test.YtmbokdnndlnjkaaMBo
set_option linter.unusedVariables false
set_option linter.unusedSimpArgs false
namespace Go.Proofs.Ytmbokdnndlnjkaa
open Go.RowKit L02 L13 L18 L20
/-- the worlds of a round of Twin that copies one type -/
def wtT (w : World) (p : Nat) (y v : Value) (W2 W4 : World) : Nat → World
  | 0 => w.drew
  | 1 => w.drew.alloc (.cells #[] 5)
  | 2 => W2
  | 3 => W2.alloc (.cells #[y] 28)
  | 4 => W4
  | _ => W4.setCell ⟨p, 0, none⟩ v
/-- .. one object -/
def wtO (w : World) (p : Nat) (ty : Int) (y v : Value) (W2 W4 : World) : Nat → World
  | 0 => w.drew
  | 1 => w.drew.alloc (.cells #[] 24)
  | 2 => W2
  | 3 => W2
  | 4 => W2.alloc (.cells #[i64 ty, y] 135)
  | 5 => W4
  | _ => W4.setCell ⟨p, 1, none⟩ v
set_option maxRecDepth 100000 in
set_option maxHeartbeats 4000000 in
theorem TwinM_any (tv ov sv : Value) (m : Mo) (hsm : Small m) (w : World) (h : Mod w tv ov sv m) :
    Calls Try.prog 86 #[.agg #[tv, ov, sv]] w fun e w' => ∃ tv' ov' sv', e = .returned (.agg #[tv', ov', sv']) ∧ OwnM w' w.heap.size 46 tv' ov' sv' m ∧ Below w.heap.size w w' := by
  have B : Below w.heap.size w w := Below.refl _ _
  have lt := h.t.len; have lo := h.o.len
  obtain ⟨NT, hNT⟩ : ∃ N, N = m.types.length := ⟨_, rfl⟩
  obtain ⟨NO, hNO⟩ : ∃ N, N = m.objs.length := ⟨_, rfl⟩
  rw [← hNT] at lt; rw [← hNO] at lo
  obtain ⟨s1, s2, s3, s4, s5⟩ := hsm
  have hNT20 : NT ≤ 20 := by omega
  have hNO962 : NO ≤ 962 := by omega
  have H := Lib.hid h; have HNT := Lib.hid hNT; have HNO := Lib.hid hNO; have S3 := Lib.hid s3; have S4 := Lib.hid s4; have S5 := Lib.hid s5
  clear h hNT hNO s4 s5 s1 s2 s3
  go_enter Try.func86, Try.ntmps86
  go_upto_region 2 with (fail)
  refine wp_gen (fun Wv => Bx Wv (w.heap.size) (85) (#[tv, ov, sv]) ∧ Bx Wv (w.heap.size + 1) (85) (#[.slice none 0 0, .slice none 0 0, .slice none 0 0]) ∧ Bx Wv (w.heap.size + 1 + 1) (85) (#[.slice none 0 0, .slice none 0 0, .slice none 0 0]) ∧ Below w.heap.size w Wv) ⟨((((Bx.at_ (by simp)).alloc _).alloc _)), (((Bx.at_ (by simp)).alloc _)), ((Bx.at_ (by simp))), ((((Below.refl _ w).alloc (by simp <;> omega) _).alloc (by simp <;> omega) _).alloc (by simp <;> omega) _)⟩ ?_
  rintro wa1 ⟨g1, g2, g3, b⟩
  replace B := B.trans (b.mono B.size); clear b
  have c_g1 := g1.cell; have f_g1 := g1.free; have a_g1 := fun o => (g1.alloc o).cell; have d_g1 := fun o o2 => ((g1.alloc o).alloc o2).cell; have e_g1 := fun o => (g1.alloc o).free
  have c_g2 := g2.cell; have f_g2 := g2.free; have a_g2 := fun o => (g2.alloc o).cell; have d_g2 := fun o o2 => ((g2.alloc o).alloc o2).cell; have e_g2 := fun o => (g2.alloc o).free
  have c_g3 := g3.cell; have f_g3 := g3.free; have a_g3 := fun o => (g3.alloc o).cell; have d_g3 := fun o o2 => ((g3.alloc o).alloc o2).cell; have e_g3 := fun o => (g3.alloc o).free
  generalize hpp : w.heap.size + 1 + 1 = p at *
  have hB0 : w.heap.size + 2 = p := by omega
  clear hpp
  have HB := Lib.hid B; have HG := Lib.hid (And.intro g1 (And.intro g2 g3))
  clear B g1 g2 g3 c_g1 c_g2 f_g1 f_g2 a_g1 a_g2 d_g1 d_g2 e_g1 e_g2 c_g3 f_g3 a_g3 d_g3 e_g3
  have hwa := HG.out.1.cell
  go_wp2
  clear hwa
  go_loopg [4] NT (fun g i wr => ∃ j : Nat, j ≤ NT ∧ g = NT - j ∧ i = .int .i64 j ∧ Hid (∃ xt, OwnT wr w.heap.size xt (m.types.take j) ∧ Bx wr w.heap.size 85 #[tv, ov, sv] ∧ Bx wr (w.heap.size + 1) 85 #[.slice none 0 0, .slice none 0 0, .slice none 0 0] ∧ Bx wr p 85 #[xt, .slice none 0 0, .slice none 0 0] ∧ Below w.heap.size w wr))
  case atStart => exact ⟨0, by omega, by omega, rfl, Lib.hid ⟨_, OwnT.nil _ _, HG.out.1, HG.out.2.1, HG.out.2.2, HB.out⟩⟩
  case round =>
    clear HG HB
    obtain ⟨j, hj, rfl, rfl, hh⟩ := hrel
    by_cases hlt : j < NT
    · obtain ⟨xt, oT, q1, q2, q3, B⟩ := hh.out
      obtain ⟨ad, x, t, ix, m0, ht, hby⟩ := H.out.t.at_ (k := j) (by have := HNT.out; omega)
      have htl : t.length ≤ 20 := S4.out t (List.mem_of_getElem? ht.out)
      obtain ⟨vs, z1, z2, z4⟩ := oT
      have hB := B.size
      have htk : (m.types.take j).length = j := by rw [List.length_take]; have := HNT.out; omega
      have c1 := q1.cell
      go_upto_region 5 with (fail)
      have HT := Lib.hid ht
      clear hh
      have b1 : Below wr.heap.size wr (wr.drew.alloc (.cells #[] 5)) := ((Below.refl _ wr).drew).alloc (Nat.le_refl _) _
      have r1 := run_lit0 (P := Try.prog) (t := 28) (e := 5) wr.drew Try.underlying28 (by kernel_rfl)
      replace r1 : (Instr.buildSlice 28 0 #[]).run Try.prog wr.drew = .ok (.slice (some ⟨wr.heap.size, 0, none⟩) 0 0) (wr.drew.alloc (.cells #[] 5)) := r1
      obtain ⟨y, W2, r2, o2, gr2⟩ := run_append_rd (P := Try.prog) (w := wr.drew.alloc (.cells #[] 5)) (ty := 28) Try.underlying28 info_u8 rfl (by omega) (lit0_own (B := wr.heap.size) (w := wr.drew) (e := 5) (sz := 1) (Nat.le_refl _)) (hby.out.below (B.trans (b1.mono hB))) (one_u8s _) (by omega) (by omega) b1.size
      replace r2 : (Builtin.append_ #[28, 28] 28 #[.slice (some ⟨wr.heap.size, 0, none⟩) 0 0, x]).run Try.prog (wr.drew.alloc (.cells #[] 5)) = .ok y W2 := r2
      have b2 : Below wr.heap.size wr W2 := b1.grown gr2 b1.size (fun k hk => (lit0_own (B := wr.heap.size) (w := wr.drew) (e := 5) (sz := 1) (Nat.le_refl _) |>.lt k hk).1)
      have oy : OwnB W2 wr.heap.size 5 y t := OwnB.of o2 (by simp)
      have hz := b2.size
      obtain ⟨v, W4, r3, o3, gr3⟩ := run_append_rd (P := Try.prog) (w := W2.alloc (.cells #[y] 28)) (ty := 70) (B := w.heap.size) Try.underlying70 info_bytes rfl (by omega) (own_below z2 (b2.alloc hz _)) lit_rd (by intro u hu; simp at hu; subst hu; exact (OwnB.rd oy).oneCell) (by omega) (by omega) (by simp; omega)
      rw [htk] at o3
      -- (slots: none yet)
      have oS0 : OwnS wr w.heap.size 46 (.slice none 0 0) [] := OwnS.nil _ _ _
      have MM := Lib.hid (copyT_mem (t := t) (a := w.heap.size) (b := w.heap.size + 1) (p := p) z1 z2 z4 oy b2 o3 gr3 q1 q2 q3 oS0 B hB (by omega) (by omega) (by omega) (Nat.le_refl _))
      have b3 := b2.alloc hz (.cells #[y] 28)
      have q14 : Bx W4 w.heap.size 85 #[tv, ov, sv] := Bx.grown (q1.below b3) gr3 (own_not_bx (own_below z2 b3) (q1.below b3) (by decide))
      have B4 : Below w.heap.size w W4 := (B.trans (b3.mono hB)).grown gr3 (Nat.le_trans hB b3.size) (fun k hk => ((own_below z2 b3).lt k hk).1)
      obtain ⟨yyA, yyn, yyc, rfl⟩ : ∃ A n c, y = .slice A n c := by obtain ⟨A, c, e⟩ := own_form' oy; exact ⟨A, _, c, e⟩
      obtain ⟨vA, vn, vc, rfl⟩ : ∃ A n c, v = .slice A n c := by obtain ⟨A, c, e⟩ := own_form' o3; exact ⟨A, _, c, e⟩
      have AL : ∀ d, d ≤ 5 → Below w.heap.size w (wtT wr p (.slice yyA yyn yyc) (.slice vA vn vc) W2 W4 d) ∧ Bx (wtT wr p (.slice yyA yyn yyc) (.slice vA vn vc) W2 W4 d) w.heap.size 85 #[tv, ov, sv] := by
        intro d hd
        rcases d with _ | _ | _ | _ | _ | d
        · exact ⟨B.drew, q1⟩
        · exact ⟨B.trans (b1.mono hB), q1.below b1⟩
        · exact ⟨B.trans (b2.mono hB), q1.below b2⟩
        · exact ⟨B.trans (b3.mono hB), q1.below b3⟩
        · exact ⟨B4, q14⟩
        · exact ⟨MM.out.2.2.2.2.2.2, MM.out.2.2.1⟩
      have ca := fun x : FXN (FL [2, 8, 9, 10, 12] (wtT wr p (.slice yyA yyn yyc) (.slice vA vn vc) W2 W4) 1 3) => (FL.all (ks := [2, 8, 9, 10, 12]) (Ws := wtT wr p (.slice yyA yyn yyc) (.slice vA vn vc) W2 W4) (p := fun W => Below w.heap.size w W ∧ Bx W w.heap.size 85 #[tv, ov, sv]) AL x).2.cell
      have cb := fun y : FXN (FL [2, 8, 9, 10, 12] (wtT wr p (.slice yyA yyn yyc) (.slice vA vn vc) W2 W4) 1 3) => cell_later (FL.all (ks := [2, 8, 9, 10, 12]) (Ws := wtT wr p (.slice yyA yyn yyc) (.slice vA vn vc) W2 W4) (p := fun W => Below w.heap.size w W ∧ Bx W w.heap.size 85 #[tv, ov, sv]) AL y).1 m0
      have p0 := q3.cell 0; have p1 := (q3.below b1).cell 0; have p2 := (q3.below b2).cell 0; have p3 := (q3.below b3).cell 0
      haveI : Nonempty (FXN (FL [2, 8, 9, 10, 12] (wtT wr p (.slice yyA yyn yyc) (.slice vA vn vc) W2 W4) 1 3)) := ⟨⟨_, _, FL.start⟩⟩
      clear c1
      refine wp_region_N (FL [2, 8, 9, 10, 12] (wtT wr p (.slice yyA yyn yyc) (.slice vA vn vc) W2 W4) 1 3) [1, 2, 8, 9, 10, 12] FL.dep (by kernel_rfl) (by kernel_rfl) (by kernel_rfl) FL.start ?_
      refine wpN_read FL.dep rfl (by decide) ?_; go_big_quiet_step (fail); refine wpQuiet_nil ?_
      refine wpN_step FL.dep rfl (by rfl) (v := xt) [] rfl (fun f W hF h0 _ => ?_) ?_
      · obtain ⟨⟨d, hd, hd2, rfl⟩, hF'⟩ := FL.read (by decide) hF h0
        refine ⟨_, ?_, hF'⟩
        have hc : (wtT wr p (.slice yyA yyn yyc) (.slice vA vn vc) W2 W4 d).cell? ⟨p, 0, none⟩ = some xt := by
          rcases d with _ | _ | _ | _ | d
          · exact p0
          · exact p1
          · exact p2
          · exact p3
          · omega
        simp [execOp, go_sem, hc]
      simp only [Act.put, List.setIfInBounds_toArray, List.set_cons_zero, List.set_cons_succ]
      refine wpN_step FL.dep rfl (by rfl) (v := .slice (some ⟨wr.heap.size, 0, none⟩) 0 0) [] (by kernel_rfl) (fun f W hF h0 h1 => ?_) ?_
      · obtain ⟨rfl, h2⟩ := FL.step (i := 0) rfl (by decide) hF h0 (by intro p hp; omega) (by omega)
        exact ⟨_, by simp [execOp, wtT, r1], h2⟩
      simp only [Act.put, List.setIfInBounds_toArray, List.set_cons_zero, List.set_cons_succ]
      iterate 5 (refine wpN_read FL.dep rfl (by decide) ?_; go_big_quiet_step (fail); refine wpQuiet_nil ?_)
      refine wpN_step FL.dep rfl (by rfl) (v := .slice yyA yyn yyc) [2] (by kernel_rfl) (fun f W hF h0 h1 => ?_) ?_
      · obtain ⟨rfl, h2⟩ := FL.step (i := 1) rfl (by decide) hF h0 (FL.prev (p := 0) (q := 2) rfl (h1 2 (by simp))) (by omega)
        exact ⟨_, by simp [execOp, resolve, invoke, builtin, Act.eval, wtT, r2], h2⟩
      simp only [Act.put, List.setIfInBounds_toArray, List.set_cons_zero, List.set_cons_succ]
      refine wpN_step FL.dep rfl (by rfl) (v := .slice (some ⟨W2.heap.size, 0, none⟩) 1 1) [8] (by kernel_rfl) (fun f W hF h0 h1 => ?_) ?_
      · obtain ⟨rfl, h2⟩ := FL.step (i := 2) rfl (by decide) hF h0 (FL.prev (p := 1) (q := 8) rfl (h1 8 (by simp))) (by omega)
        exact ⟨_, by simp [execOp, go_sem, wtT], h2⟩
      simp only [Act.put, List.setIfInBounds_toArray, List.set_cons_zero, List.set_cons_succ]
      refine wpN_step FL.dep rfl (by rfl) (v := .slice vA vn vc) [9, 1] (by kernel_rfl) (fun f W hF h0 h1 => ?_) ?_
      · obtain ⟨rfl, h2⟩ := FL.step (i := 3) rfl (by decide) hF h0 (FL.prev (p := 2) (q := 9) rfl (h1 9 (by simp))) (fun _ => h1 1 (by simp))
        exact ⟨_, by simp [execOp, resolve, invoke, builtin, Act.eval, wtT, r3], h2⟩
      simp only [Act.put, List.setIfInBounds_toArray, List.set_cons_zero, List.set_cons_succ]
      refine wpN_read FL.dep rfl (by decide) ?_; go_big_quiet_step (fail); refine wpQuiet_nil ?_
      refine wpN_storeD FL.dep rfl 70 (.tmp 24) (.tmp 23) rfl (by rfl) (p := .pointer (some ⟨p, 0, none⟩)) (u := .slice vA vn vc) (by rfl) (by rfl) [10] (by kernel_rfl) (fun f W hF h0 h1 => ?_) ?_
      · obtain ⟨rfl, h2⟩ := FL.step (i := 4) rfl (by decide) hF h0 (FL.prev (p := 3) (q := 10) rfl (h1 10 (by simp))) (by omega)
        refine ⟨_, ?_, h2⟩
        have hc := MM.out.1.1; have hf := MM.out.1.2
        simp [go_sem, wtT, hc, hf]
      show ∀ w', _ → _
      intro w' hw'
      obtain rfl := FL.done hw'
      have HM := Lib.hid (MM.out.2)
      clear this MM q1 q2 q3 oS0 B z1 z2 z4 hw' r1 r2 r3 oy b1 b2 b3 p0 p1 p2 p3 AL ca cb q14 B4 o2 o3 gr2 gr3 m0
      go_wp2
      go_roundg (NT - (j + 1))
      case measure => omega
      case rel =>
        obtain ⟨k1, k2, k3, k4, _, k6⟩ := HM.out
        refine ⟨j + 1, by omega, rfl, by go_num, Lib.hid ⟨_, ?_, k2, k3, k4, k6⟩⟩
        rwa [List.take_add_one, HT.out.out]
    · obtain rfl : j = NT := by omega
      obtain ⟨xt, oT, q1, q2, q3, B⟩ := hh.out
      rw [List.take_of_length_le (by have := HNT.out; omega)] at oT
      clear hh
      have hwa := q1.cell
      have HG := Lib.hid (And.intro q1 (And.intro q2 (And.intro q3 oT))); have HB := Lib.hid B
      clear q1 q2 q3 oT B
      go_wp2
      clear hwa
      go_loopg [5] NO (fun g i wr => ∃ k : Nat, k ≤ NO ∧ g = NO - k ∧ i = .int .i64 k ∧ Hid (∃ ot, OwnO wr w.heap.size ot (m.objs.take k) ∧ Bx wr w.heap.size 85 #[tv, ov, sv] ∧ Bx wr (w.heap.size + 1) 85 #[.slice none 0 0, .slice none 0 0, .slice none 0 0] ∧ Bx wr p 85 #[xt, ot, .slice none 0 0] ∧ OwnT wr w.heap.size xt m.types ∧ Below w.heap.size w wr))
      case atStart => exact ⟨0, by omega, by omega, rfl, Lib.hid ⟨_, OwnO.nil _ _, HG.out.1, HG.out.2.1, HG.out.2.2.1, HG.out.2.2.2, HB.out⟩⟩
      case round =>
        clear HG HB
        obtain ⟨k, hk, rfl, rfl, hh⟩ := hrel
        by_cases hltk : k < NO
        · obtain ⟨ot, oO, q1, q2, q3, oT, B⟩ := hh.out
          obtain ⟨ob, oq, x, o, ix, m0, m1, ho, hx, hob⟩ := H.out.o.at_ (k := k) (by have := HNO.out; omega)
          have hol : o.fs.length ≤ 20 := S5.out o (List.mem_of_getElem? ho.out)
          have hxx := hx.out
          have htk : (m.objs.take k).length = k := by rw [List.length_take]; have := HNO.out; omega
          obtain ⟨xA, xn, xc, rfl⟩ : ∃ A n c, x = .slice A n c := by obtain ⟨A, c, e, _⟩ := hxx; exact ⟨A, _, c, e⟩
          obtain ⟨vs, z1, z2, z4, z5⟩ := oO
          have hB := B.size
          have c1 := q1.cell
          go_upto_region 9 with (fail)
          have HT := Lib.hid ho
          clear hh hx
          have b1 : Below wr.heap.size wr (wr.drew.alloc (.cells #[] 24)) := ((Below.refl _ wr).drew).alloc (Nat.le_refl _) _
          have r1 := run_lit0 (P := Try.prog) (t := 22) (e := 24) wr.drew Try.underlying22 (by kernel_rfl)
          replace r1 : (Instr.buildSlice 22 0 #[]).run Try.prog wr.drew = .ok (.slice (some ⟨wr.heap.size, 0, none⟩) 0 0) (wr.drew.alloc (.cells #[] 24)) := r1
          obtain ⟨y, W2, r2, o2, gr2⟩ := run_append_rd (P := Try.prog) (w := wr.drew.alloc (.cells #[] 24)) (ty := 22) Try.underlying22 info_u64 rfl (by omega) (lit0_own (B := wr.heap.size) (w := wr.drew) (e := 24) (sz := 1) (Nat.le_refl _)) (hxx.below (B.trans (b1.mono hB))) (one_u64s _) (by omega) (by omega) b1.size
          replace r2 : (Builtin.append_ #[22, 22] 22 #[.slice (some ⟨wr.heap.size, 0, none⟩) 0 0, .slice xA xn xc]).run Try.prog (wr.drew.alloc (.cells #[] 24)) = .ok y W2 := r2
          have b2 : Below wr.heap.size wr W2 := b1.grown gr2 b1.size (fun k hk => (lit0_own (B := wr.heap.size) (w := wr.drew) (e := 24) (sz := 1) (Nat.le_refl _) |>.lt k hk).1)
          have oy : OwnW W2 wr.heap.size 24 y o.fs := OwnW.of o2 (by simp)
          have hz := b2.size
          obtain ⟨v, W4, r3, o3, gr3⟩ := run_append_rd (P := Try.prog) (w := W2.alloc (.cells #[i64 o.ty, y] 135)) (ty := 83) (B := w.heap.size) Try.underlying83 info_obj rfl (by omega) (own_below z2 (b2.alloc hz _)) lit_obj (one_obj (OwnW.rd oy).oneCell) (by omega) (by omega) (by simp; omega)
          rw [htk] at o3
          have oS0 : OwnS wr w.heap.size 46 (.slice none 0 0) [] := OwnS.nil _ _ _
          have hlt0 := own_not_bx z2 q1 (by decide)
          have MM := Lib.hid (copyO_mem (o := o) (a := w.heap.size) (b := w.heap.size + 1) (p := p) z1 z2 z4 z5 oy b2 o3 gr3 q1 q2 q3 oT oS0 B hB (by omega) (by omega) (by omega) q1 hlt0 (by omega))
          have b3 := b2.alloc hz (.cells #[i64 o.ty, y] 135)
          have B4 : Below w.heap.size w W4 := (B.trans (b3.mono hB)).grown gr3 (Nat.le_trans hB b3.size) (fun k hk => ((own_below z2 b3).lt k hk).1)
          obtain ⟨yyA, yyn, yyc, rfl⟩ : ∃ A n c, y = .slice A n c := by obtain ⟨A, c, e⟩ := own_form' oy; exact ⟨A, _, c, e⟩
          obtain ⟨vA, vn, vc, rfl⟩ : ∃ A n c, v = .slice A n c := by obtain ⟨A, c, e⟩ := own_form' o3; exact ⟨A, _, c, e⟩
          have AL : ∀ d, d ≤ 6 → Below w.heap.size w (wtO wr p o.ty (.slice yyA yyn yyc) (.slice vA vn vc) W2 W4 d) ∧ Bx (wtO wr p o.ty (.slice yyA yyn yyc) (.slice vA vn vc) W2 W4 d) w.heap.size 85 #[tv, ov, sv] := by
            intro d hd
            rcases d with _ | _ | _ | _ | _ | _ | d
            · exact ⟨B.drew, q1⟩
            · exact ⟨B.trans (b1.mono hB), q1.below b1⟩
            · exact ⟨B.trans (b2.mono hB), q1.below b2⟩
            · exact ⟨B.trans (b2.mono hB), q1.below b2⟩
            · exact ⟨B.trans (b3.mono hB), q1.below b3⟩
            · exact ⟨B4, MM.out.2.2.2.2.2.2.2.2.1⟩
            · exact ⟨MM.out.2.2.2.2.2.2.2.1, MM.out.2.2.1⟩
          have ca := fun x : FXN (FL [8, 15, 16, 17, 18, 20] (wtO wr p o.ty (.slice yyA yyn yyc) (.slice vA vn vc) W2 W4) 1 4) => (FL.all (ks := [8, 15, 16, 17, 18, 20]) (Ws := wtO wr p o.ty (.slice yyA yyn yyc) (.slice vA vn vc) W2 W4) (p := fun W => Below w.heap.size w W ∧ Bx W w.heap.size 85 #[tv, ov, sv]) AL x).2.cell
          have cb := fun y : FXN (FL [8, 15, 16, 17, 18, 20] (wtO wr p o.ty (.slice yyA yyn yyc) (.slice vA vn vc) W2 W4) 1 4) => cell_later (FL.all (ks := [8, 15, 16, 17, 18, 20]) (Ws := wtO wr p o.ty (.slice yyA yyn yyc) (.slice vA vn vc) W2 W4) (p := fun W => Below w.heap.size w W ∧ Bx W w.heap.size 85 #[tv, ov, sv]) AL y).1 m0
          have cc := fun y : FXN (FL [8, 15, 16, 17, 18, 20] (wtO wr p o.ty (.slice yyA yyn yyc) (.slice vA vn vc) W2 W4) 1 4) => cell_later (FL.all (ks := [8, 15, 16, 17, 18, 20]) (Ws := wtO wr p o.ty (.slice yyA yyn yyc) (.slice vA vn vc) W2 W4) (p := fun W => Below w.heap.size w W ∧ Bx W w.heap.size 85 #[tv, ov, sv]) AL y).1 m1
          have p0 := q3.cell 1; have p1 := (q3.below b1).cell 1; have p2 := (q3.below b2).cell 1; have p3 := (q3.below b3).cell 1
          haveI : Nonempty (FXN (FL [8, 15, 16, 17, 18, 20] (wtO wr p o.ty (.slice yyA yyn yyc) (.slice vA vn vc) W2 W4) 1 4)) := ⟨⟨_, _, FL.start⟩⟩
          clear c1
          refine wp_region_N (FL [8, 15, 16, 17, 18, 20] (wtO wr p o.ty (.slice yyA yyn yyc) (.slice vA vn vc) W2 W4) 1 4) [1, 8, 15, 16, 17, 18, 20] FL.dep (by kernel_rfl) (by kernel_rfl) (by kernel_rfl) FL.start ?_
          refine wpN_read FL.dep rfl (by decide) ?_; go_big_quiet_step (fail); refine wpQuiet_nil ?_
          refine wpN_step FL.dep rfl (by rfl) (v := ot) [] rfl (fun f W hF h0 _ => ?_) ?_
          · obtain ⟨⟨d, hd, hd2, rfl⟩, hF'⟩ := FL.read (by decide) hF h0
            refine ⟨_, ?_, hF'⟩
            have hc : (wtO wr p o.ty (.slice yyA yyn yyc) (.slice vA vn vc) W2 W4 d).cell? ⟨p, 1, none⟩ = some ot := by
              rcases d with _ | _ | _ | _ | _ | d
              · exact p0
              · exact p1
              · exact p2
              · exact p2
              · exact p3
              · omega
            simp [execOp, go_sem, hc]
          simp only [Act.put, List.setIfInBounds_toArray, List.set_cons_zero, List.set_cons_succ]
          iterate 6 (refine wpN_read FL.dep rfl (by decide) ?_; go_big_quiet_step (fail); refine wpQuiet_nil ?_)
          refine wpN_step FL.dep rfl (by rfl) (v := .slice (some ⟨wr.heap.size, 0, none⟩) 0 0) [] (by kernel_rfl) (fun f W hF h0 h1 => ?_) ?_
          · obtain ⟨rfl, h2⟩ := FL.step (i := 0) rfl (by decide) hF h0 (by intro p hp; omega) (by omega)
            exact ⟨_, by simp [execOp, wtO, r1], h2⟩
          simp only [Act.put, List.setIfInBounds_toArray, List.set_cons_zero, List.set_cons_succ]
          iterate 6 (refine wpN_read FL.dep rfl (by decide) ?_; go_big_quiet_step (fail); refine wpQuiet_nil ?_)
          refine wpN_step FL.dep rfl (by rfl) (v := .slice yyA yyn yyc) [8] (by kernel_rfl) (fun f W hF h0 h1 => ?_) ?_
          · obtain ⟨rfl, h2⟩ := FL.step (i := 1) rfl (by decide) hF h0 (FL.prev (p := 0) (q := 8) rfl (h1 8 (by simp))) (by omega)
            exact ⟨_, by simp [execOp, resolve, invoke, builtin, Act.eval, wtO, r2], h2⟩
          simp only [Act.put, List.setIfInBounds_toArray, List.set_cons_zero, List.set_cons_succ]
          refine wpN_step FL.dep rfl (by rfl) (v := .agg #[i64 o.ty, .slice yyA yyn yyc]) [15] (by kernel_rfl) (fun f W hF h0 h1 => ?_) ?_
          · obtain ⟨rfl, h2⟩ := FL.step (i := 2) rfl (by decide) hF h0 (FL.prev (p := 1) (q := 15) rfl (h1 15 (by simp))) (by omega)
            exact ⟨_, by simp [execOp, go_sem, wtO, i64], h2⟩
          simp only [Act.put, List.setIfInBounds_toArray, List.set_cons_zero, List.set_cons_succ]
          refine wpN_step FL.dep rfl (by rfl) (v := .slice (some ⟨W2.heap.size, 0, none⟩) 1 1) [16] (by kernel_rfl) (fun f W hF h0 h1 => ?_) ?_
          · obtain ⟨rfl, h2⟩ := FL.step (i := 3) rfl (by decide) hF h0 (FL.prev (p := 2) (q := 16) rfl (h1 16 (by simp))) (by omega)
            exact ⟨_, by simp [execOp, go_sem, wtO, i64], h2⟩
          simp only [Act.put, List.setIfInBounds_toArray, List.set_cons_zero, List.set_cons_succ]
          refine wpN_step FL.dep rfl (by rfl) (v := .slice vA vn vc) [17, 1] (by kernel_rfl) (fun f W hF h0 h1 => ?_) ?_
          · obtain ⟨rfl, h2⟩ := FL.step (i := 4) rfl (by decide) hF h0 (FL.prev (p := 3) (q := 17) rfl (h1 17 (by simp))) (fun _ => h1 1 (by simp))
            exact ⟨_, by simp [execOp, resolve, invoke, builtin, Act.eval, wtO, r3], h2⟩
          simp only [Act.put, List.setIfInBounds_toArray, List.set_cons_zero, List.set_cons_succ]
          refine wpN_read FL.dep rfl (by decide) ?_; go_big_quiet_step (fail); refine wpQuiet_nil ?_
          refine wpN_storeD FL.dep rfl 83 (.tmp 51) (.tmp 50) rfl (by rfl) (p := .pointer (some ⟨p, 1, none⟩)) (u := .slice vA vn vc) (by rfl) (by rfl) [18] (by kernel_rfl) (fun f W hF h0 h1 => ?_) ?_
          · obtain ⟨rfl, h2⟩ := FL.step (i := 5) rfl (by decide) hF h0 (FL.prev (p := 4) (q := 18) rfl (h1 18 (by simp))) (by omega)
            refine ⟨_, ?_, h2⟩
            have hc := MM.out.1.1; have hf := MM.out.1.2
            simp [go_sem, wtO, hc, hf]
          show ∀ w', _ → _
          intro w' hw'
          obtain rfl := FL.done hw'
          have HM := Lib.hid (MM.out.2)
          clear this MM q1 q2 q3 oS0 oT B z1 z2 z4 z5 hw' r1 r2 r3 oy b1 b2 b3 p0 p1 p2 p3 AL ca cb cc B4 o2 o3 gr2 gr3 m0 m1 hxx hlt0
          go_wp2
          go_roundg (NO - (k + 1))
          case measure => omega
          case rel =>
            obtain ⟨k1, k2, k3, k4, k5, _, k7, _⟩ := HM.out
            refine ⟨k + 1, by omega, rfl, by go_num, Lib.hid ⟨_, ?_, k2, k3, k4, k5, k7⟩⟩
            rwa [List.take_add_one, HT.out.out]
        · obtain rfl : k = NO := by omega
          obtain ⟨ot, oO, q1, q2, q3, oT, B⟩ := hh.out
          rw [List.take_of_length_le (by have := HNO.out; omega)] at oO
          obtain ⟨oA, on, oc, rfl⟩ : ∃ A n c, ot = .slice A n c := by obtain ⟨vs, _, z2, _⟩ := oO; obtain ⟨A, c, e⟩ := own_form' z2; exact ⟨A, _, c, e⟩
          obtain ⟨xA, xn, xc, rfl⟩ : ∃ A n c, xt = .slice A n c := by obtain ⟨vs, _, z2, _⟩ := oT; obtain ⟨A, c, e⟩ := own_form' z2; exact ⟨A, _, c, e⟩
          have hsv := (H.out.s.below B)
          have hln := S3.out
          have c1 := q1.cell
          have HQ := Lib.hid (And.intro q1 (And.intro q2 (And.intro q3 (And.intro oT (And.intro oO B)))))
          have HS := Lib.hid hsv
          have a1 := fun o => (q1.alloc o).cell
          have hzB := B.size
          clear hh q1 q2 q3 oT oO B hsv
          go_wp2_with (at_builtin; refine wpList_append (by rfl) rfl rfl rfl Try.underlying60 info_slot rfl (by omega) (by exact lit0_own (B := wr.heap.size) (Nat.le_refl _)) (by exact HS.out.alloc _) (by exact tabL_one _) (by omega) (by omega) (by exact (Below.refl _ wr).alloc (Nat.le_refl _) _) (Nat.le_refl _) ?_; intro v1 w3 o3 B3 g3; obtain ⟨sA, sn, sc, rfl⟩ : ∃ A n c, v1 = .slice A n c := by { obtain ⟨A, c, e⟩ := own_form' o3; exact ⟨A, _, c, e⟩ }; clear g3; have c2 := (HQ.out.2.1.below B3).cell; have f2 := (HQ.out.2.1.below B3).free; have c3 := (HQ.out.2.2.1.below B3).cell; have f3 := (HQ.out.2.2.1.below B3).free)
          refine bodyPost_ret (v := .agg #[.slice xA xn xc, .slice oA on oc, .slice sA sn sc]) (by simp [results, Try.results86, go_sem, c2, c3, f2, f3]) rfl ?_
          obtain ⟨q1, q2, q3, oT, oO, B⟩ := HQ.out
          have oS : OwnS w3 w.heap.size 46 (.slice sA sn sc) m.slots := by
            have := own_mono o3 hzB
            unfold OwnS; simpa using this
          have hM : OwnM w3 w.heap.size 46 (.slice xA xn xc) (.slice oA on oc) (.slice sA sn sc) m := ⟨oT.below B3, oO.below B3, oS⟩
          have q2' := (q2.below B3).far (p := ⟨p, 2, none⟩) (by show w.heap.size + 1 ≠ p; omega) (.slice sA sn sc)
          refine ⟨_, _, _, rfl, OwnM.set3 (hM.set (q3.below B3)) q2', ?_⟩
          have B5 := (B.trans (B3.mono hzB)).setCell (p := ⟨p, 2, none⟩) (by show w.heap.size ≤ p; omega) (.slice sA sn sc)
          exact ((B5.setCell (p := ⟨w.heap.size + 1, 0, none⟩) (by simp) _).setCell (p := ⟨w.heap.size + 1, 1, none⟩) (by simp) _).setCell (p := ⟨w.heap.size + 1, 2, none⟩) (by simp) _
end Go.Proofs.Ytmbokdnndlnjkaa
namespace Go.Proofs.Ytmbokdnndlnjkaa
open Go.RowKit L02 L13 L18 L20
end Go.Proofs.Ytmbokdnndlnjkaa
namespace Go.Proofs.Ytmbokdnndlnjkaa
open Go.RowKit L02 L13 L18 L20
theorem mo_ne {a b : Mo} (h : ¬ (a.types = b.types ∧ a.objs = b.objs ∧ a.slots = b.slots)) : ¬ a = b := fun e => h (by rw [e]; exact ⟨rfl, rfl, rfl⟩)
theorem mo_eq {a b : Mo} (h1 : a.types = b.types) (h2 : a.objs = b.objs) (h3 : a.slots = b.slots) : a = b := by cases a; cases b; simp_all
theorem ob_eq {a b : Ob} (h1 : a.ty = b.ty) (h2 : a.fs = b.fs) : a = b := by cases a; cases b; simp_all
set_option maxRecDepth 100000 in
set_option maxHeartbeats 4000000 in
theorem Same20_any (ta oa sa tb ob sb : Value) (a b : Mo) (r : Bool) (hr : r = decide (a = b)) (w : World) (ha : Mod w ta oa sa a) (hb : Mod w tb ob sb b) :
    Calls Try.prog 45 #[.agg #[ta, oa, sa], .agg #[tb, ob, sb]] w fun e w' => e = .returned (.bool r) ∧ Below w.heap.size w w' := by
  have B : Below w.heap.size w w := Below.refl _ _
  have lo := ha.o.len; have lo2 := hb.o.len
  have lo' := ha.o.len_le; have lo2' := hb.o.len_le
  obtain ⟨z1, hz1⟩ : ∃ z, z = decide (a.types = b.types) := ⟨_, rfl⟩
  obtain ⟨z3, hz3⟩ : ∃ z, z = sameS a.slots b.slots := ⟨_, rfl⟩
  have TT := Lib.hid (fun w h1 h2 => SameT_any ta tb a.types b.types z1 hz1 w h1 h2)
  have ST := Lib.hid (fun w h1 h2 => SameS_any sa sb a.slots b.slots z3 hz3 w h1 h2)
  obtain ⟨NA, hNA⟩ : ∃ N, N = a.objs.length := ⟨_, rfl⟩
  obtain ⟨NB, hNB⟩ : ∃ N, N = b.objs.length := ⟨_, rfl⟩
  rw [← hNA] at lo lo'; rw [← hNB] at lo2 lo2'
  have HA := Lib.hid ha; have HB := Lib.hid hb; have HNA := Lib.hid hNA; have HNB := Lib.hid hNB; have HR := Lib.hid hr; have HZ1 := Lib.hid hz1; have HZ3 := Lib.hid hz3
  have hno : ¬ (a.types = b.types ∧ a.objs = b.objs ∧ a.slots = b.slots) → r = false := fun h => by rw [hr]; exact decide_eq_false (mo_ne h)
  have HNO := Lib.hid hno
  clear ha hb hNA hNB hr hz1 hz3 hno
  go_enter Try.func45, Try.ntmps45
  go_upto_region 1 with (fail)
  refine wp_gen (fun Wv => Bx Wv (w.heap.size) (85) (#[ta, oa, sa]) ∧ Bx Wv (w.heap.size + 1) (85) (#[tb, ob, sb]) ∧ Below w.heap.size w Wv) ⟨(((Bx.at_ (by simp)).alloc _)), ((Bx.at_ (by simp))), (((Below.refl _ w).alloc (by simp <;> omega) _).alloc (by simp <;> omega) _)⟩ ?_
  rintro wa1 ⟨g1, g2, b⟩
  replace B := B.trans (b.mono B.size); clear b
  have c_g1 := g1.cell; have f_g1 := g1.free; have a_g1 := fun o => (g1.alloc o).cell; have d_g1 := fun o o2 => ((g1.alloc o).alloc o2).cell; have e_g1 := fun o => (g1.alloc o).free
  have c_g2 := g2.cell; have f_g2 := g2.free; have a_g2 := fun o => (g2.alloc o).cell; have d_g2 := fun o o2 => ((g2.alloc o).alloc o2).cell; have e_g2 := fun o => (g2.alloc o).free
  go_wp2_with fail
  refine (TT.out _ (HA.out.t.below B) (HB.out.t.below B)).mono ?_
  rintro e w2 ⟨rfl, b2⟩
  replace g1 := g1.below b2; replace g2 := g2.below b2; replace B := B.trans (b2.mono B.size)
  clear b2 c_g1 c_g2 f_g1 f_g2 a_g1 a_g2 d_g1 d_g2 e_g1 e_g2
  have c_g1 := g1.cell; have c_g2 := g2.cell
  cases z1
  · have hrf := HNO.out (fun h => by have := HZ1.out; rw [eq_comm, decide_eq_false_iff_not] at this; exact this h.1)
    subst hrf
    go_wp2
    go_ret
    exact ⟨rfl, B⟩
  · by_cases hl : NA = NB
    · have hl1 : ((NA : Int) != (NB : Int)) = false := by rw [bne_eq_false_iff_eq]; omega
      have HL := Lib.hid hl; clear hl
      go_wp2_with fail
      refine (ST.out _ (HA.out.s.below B) (HB.out.s.below B)).mono ?_
      rintro e w3 ⟨rfl, b2⟩
      replace g1 := g1.below b2; replace g2 := g2.below b2; replace B := B.trans (b2.mono B.size)
      clear b2 c_g1 c_g2
      cases z3
      · have hrf := HNO.out (fun h => by have := HZ3.out; rw [sameS, eq_comm, decide_eq_false_iff_not] at this; exact this h.2.2)
        subst hrf
        go_wp2
        go_ret
        exact ⟨rfl, B⟩
      · have HG := Lib.hid (And.intro g1 (And.intro g2 B))
        clear g1 g2 B
        go_wp2
        go_loopg [5] NA (fun g i wr => ∃ k : Nat, k ≤ NA ∧ g = NA - k ∧ i = .int .i64 k ∧ Hid (a.objs.take k = b.objs.take k ∧ Bx wr w.heap.size 85 #[ta, oa, sa] ∧ Bx wr (w.heap.size + 1) 85 #[tb, ob, sb] ∧ Below w.heap.size w wr))
        case atStart => exact ⟨0, by omega, by omega, rfl, Lib.hid ⟨by simp, HG.out⟩⟩
        case round =>
          clear HG
          obtain ⟨k, hk, rfl, rfl, hh⟩ := hrel
          obtain ⟨heq, g1, g2, B⟩ := hh.out
          have HEQ := Lib.hid heq
          clear hh heq
          have c_g1 := g1.cell; have c_g2 := g2.cell
          by_cases hlt : k < NA
          · obtain ⟨bb, bq, x, o, ix, m0, m1, ho, hx, hxb⟩ := (HA.out.o.below B).at_ (k := k) (by have := HNA.out; omega)
            obtain ⟨cb, cq, y, p, iy, m2, m3, hp, hy, hyb⟩ := (HB.out.o.below B).at_ (k := k) (by have := HNB.out; have := HL.out; omega)
            have hxx := hx.out; have hyy := hy.out
            by_cases hty : o.ty = p.ty
            · have ht : (o.ty != p.ty) = false := by rw [bne_eq_false_iff_eq]; exact hty
              obtain ⟨q, hq⟩ : ∃ q, q = L02.same o.fs p.fs := ⟨_, rfl⟩
              have SW := Lib.hid (fun w h1 h2 => Same_r x y o.fs p.fs q hq w h1 h2)
              have HQ := Lib.hid hq; have HTY := Lib.hid hty; clear hq hty
              have HXX := Lib.hid hxx; have HYY := Lib.hid hyy
              go_upto_region 6 with (fail)
              have HC := Lib.hid (fun z : Fut wr => And.intro (HXX.out.below z.h) (HYY.out.below z.h))
              clear hxx hyy
              refine wp_region_calm (by kernel_rfl) (by kernel_rfl) ?_
              try clear c_g1 f_g1 a_g1 d_g1 e_g1
              have c_g1 := fun x : Fut _ => (g1.below x.h).cell
              try clear c_g2 f_g2 a_g2 d_g2 e_g2
              have c_g2 := fun x : Fut _ => (g2.below x.h).cell
              have c_m0 := fun x : Fut _ => cell_later x.h m0
              have c_m1 := fun x : Fut _ => cell_later x.h m1
              have c_m2 := fun x : Fut _ => cell_later x.h m2
              have c_m3 := fun x : Fut _ => cell_later x.h m3
              repeat (go_big_quiet_step (exact Fut.call (SW.out _ (HC.out _).1 (HC.out _).2)))
              refine wpQuiet_nil ?_
              intro _ hw'
              obtain ⟨xq, hw''⟩ := hw'
              subst hw''
              clear c_g1; replace g1 := g1.below xq.h; have c_g1 := g1.cell; have f_g1 := g1.free; have a_g1 := fun o => (g1.alloc o).cell; have d_g1 := fun o o2 => ((g1.alloc o).alloc o2).cell; have e_g1 := fun o => (g1.alloc o).free
              clear c_g2; replace g2 := g2.below xq.h; have c_g2 := g2.cell; have f_g2 := g2.free; have a_g2 := fun o => (g2.alloc o).cell; have d_g2 := fun o o2 => ((g2.alloc o).alloc o2).cell; have e_g2 := fun o => (g2.alloc o).free
              clear c_m0; replace m0 := cell_later xq.h m0
              clear c_m1; replace m1 := cell_later xq.h m1
              clear c_m2; replace m2 := cell_later xq.h m2
              clear c_m3; replace m3 := cell_later xq.h m3
              replace B := B.trans (xq.h.mono B.size)
              cases q
              · have hrf := HNO.out (fun h => by
                  have h1 := ho.out; have h2 := hp.out
                  rw [h.2.1, h2] at h1; injection h1 with h1
                  have := HQ.out; rw [h1] at this
                  simp [L02.same] at this)
                subst hrf
                go_wp2
                go_ret
                exact ⟨rfl, B⟩
              · have hs : o.fs = p.fs := by have := HQ.out; simpa [L02.same, eq_comm] using this
                have HS := Lib.hid (ob_eq HTY.out hs); clear hs
                have HH := Lib.hid (And.intro g1 (And.intro g2 B))
                clear g1 g2 B c_g1 c_g2 f_g1 f_g2 a_g1 a_g2 d_g1 d_g2 e_g1 e_g2 m0 m1 m2 m3
                go_wp2
                go_roundg (NA - (k + 1))
                case measure => omega
                case rel =>
                  refine ⟨k + 1, by omega, rfl, by go_num, Lib.hid ⟨?_, HH.out⟩⟩
                  rw [List.take_add_one, List.take_add_one, HEQ.out, ho.out, hp.out, HS.out]
            · have ht : (o.ty != p.ty) = true := by rw [bne_iff_ne]; exact hty
              have hrf := HNO.out (fun h => by
                have h1 := ho.out; have h2 := hp.out
                rw [h.2.1, h2] at h1; injection h1 with h1
                exact hty (by rw [h1]))
              subst hrf
              clear hxx hyy hty
              go_upto_region 6 with (fail)
              refine wp_region_calm (by kernel_rfl) (by kernel_rfl) ?_
              try clear c_g1 f_g1 a_g1 d_g1 e_g1
              have c_g1 := fun x : Fut _ => (g1.below x.h).cell
              try clear c_g2 f_g2 a_g2 d_g2 e_g2
              have c_g2 := fun x : Fut _ => (g2.below x.h).cell
              have c_m0 := fun x : Fut _ => cell_later x.h m0
              have c_m1 := fun x : Fut _ => cell_later x.h m1
              have c_m2 := fun x : Fut _ => cell_later x.h m2
              have c_m3 := fun x : Fut _ => cell_later x.h m3
              repeat (go_big_quiet_step (fail))
              refine wpQuiet_nil ?_
              intro _ hw'
              obtain ⟨xq, hw''⟩ := hw'
              subst hw''
              clear c_g1; replace g1 := g1.below xq.h; have c_g1 := g1.cell; have f_g1 := g1.free; have a_g1 := fun o => (g1.alloc o).cell; have d_g1 := fun o o2 => ((g1.alloc o).alloc o2).cell; have e_g1 := fun o => (g1.alloc o).free
              clear c_g2; replace g2 := g2.below xq.h; have c_g2 := g2.cell; have f_g2 := g2.free; have a_g2 := fun o => (g2.alloc o).cell; have d_g2 := fun o o2 => ((g2.alloc o).alloc o2).cell; have e_g2 := fun o => (g2.alloc o).free
              clear c_m0; replace m0 := cell_later xq.h m0
              clear c_m1; replace m1 := cell_later xq.h m1
              clear c_m2; replace m2 := cell_later xq.h m2
              clear c_m3; replace m3 := cell_later xq.h m3
              replace B := B.trans (xq.h.mono B.size)
              go_wp2
              go_ret
              exact ⟨rfl, B⟩
          · obtain rfl : k = NA := by omega
            have hrt : r = true := by
              rw [HR.out, decide_eq_true_iff]
              have h1 := HEQ.out
              rw [List.take_of_length_le (by have := HNA.out; omega), List.take_of_length_le (by have := HNB.out; have := HL.out; omega)] at h1
              have h2 := HZ1.out; have h3 := HZ3.out
              rw [eq_comm, decide_eq_true_iff] at h2
              rw [sameS, eq_comm, decide_eq_true_iff] at h3
              exact mo_eq h2 h1 h3
            subst hrt
            go_wp2
            go_ret
            exact ⟨rfl, B⟩
    · have hl1 : ((NA : Int) != (NB : Int)) = true := by rw [bne_iff_ne]; omega
      have hrf := HNO.out (fun h => hl (by rw [HNA.out, HNB.out, h.2.1]))
      subst hrf
      clear hl
      go_wp2
      go_ret
      exact ⟨rfl, B⟩
end Go.Proofs.Ytmbokdnndlnjkaa
namespace Go.Proofs.Ytmbokdnndlnjkaa
open Go Go.RowKit
section
variable {P : Program} {ops : Array Oper} {md : Region.Mode}
/-- a number of nn yields its value, whatever its world; the others as they do -/
def YieldsM (P : Program) (md : Region.Mode) (ops : Array Oper) (C : Array Bool → World → Prop) (nn : Nat → Bool) (x : Nat → Value) (i : Nat) (o : Oper) (v : Value) (a : Act) : Prop :=
  (nn i = true ∧ v = x i ∧ Region.wanted o (yielded ops a.tmps) = true) ∨ (nn i = false ∧ YieldsV P md ops C i o v a)
theorem YieldsM.of_same {C : Array Bool → World → Prop} {nn : Nat → Bool} {x : Nat → Value} {i : Nat} {o : Oper} {v : Value} {a a' : Act} (hy : YieldsM P md ops C nn x i o v a) (he : execOp a'.eval o = execOp a.eval o)
    (hw : Region.wanted o (yielded ops a'.tmps) = Region.wanted o (yielded ops a.tmps)) : YieldsM P md ops C nn x i o v a' := by
  rcases hy with ⟨h1, h2, h3⟩ | ⟨h1, h2⟩
  · exact .inl ⟨h1, h2, by rw [hw]; exact h3⟩
  · exact .inr ⟨h1, h2.of_same he hw⟩
/-- T a: what the operation k0 does at the act a -/
def qOpM (P : Program) (md : Region.Mode) (ops : Array Oper) (C : Array Bool → World → Prop) (nn : Nat → Bool) (x : Nat → Value) (T : Nat → Sem Next → Prop) (i : Nat) (K : Act → Prop) (a : Act) : Prop :=
  match ops[i]? with
  | none => False
  | some o => ∃ v, (YieldsM P md ops C nn x i o v a ∧ (nn i = true → T i (execOp a.eval o))) ∧ K (a.put o.dst v)
variable {C : Array Bool → World → Prop} {nn : Nat → Bool} {x : Nat → Value} {T : Nat → Sem Next → Prop}
theorem qOpM_mono {i : Nat} {a : Act} {K K' : Act → Prop} (h : ∀ a, K a → K' a) (hh : qOpM P md ops C nn x T i K a) : qOpM P md ops C nn x T i K' a := by
  unfold qOpM at *
  split
  · rename_i ho; simp only [ho] at hh
  · rename_i o ho
    simp only [ho] at hh
    obtain ⟨v, h1, h2⟩ := hh
    exact ⟨v, h1, h _ h2⟩
theorem qOpM_put {i j : Nat} {oi oj : Oper} {v : Value} (hj : ops[j]? = some oj) (hap : oi.apart ops oj = true)
    (hsi : ∀ cs b, oi.op ≠ .select cs b) (hsj : ∀ cs b, oj.op ≠ .select cs b) {K : Act → Prop} {a : Act}
    (hy : YieldsM P md ops C nn x i oi v a ∧ (nn i = true → T i (execOp a.eval oi))) (h : qOpM P md ops C nn x T j K (a.put oi.dst v)) :
    qOpM P md ops C nn x T j (fun a' => (YieldsM P md ops C nn x i oi v a' ∧ (nn i = true → T i (execOp a'.eval oi))) ∧ K (a'.put oi.dst v)) a := by
  obtain ⟨h1, h2, h3⟩ := Oper.apart_spec hap
  unfold qOpM at *
  simp only [hj] at *
  obtain ⟨u, ⟨hu, hu2⟩, hn⟩ := h
  refine ⟨u, ⟨hu.of_same ?_ ?_, fun e => ?_⟩, ⟨hy.1.of_same ?_ ?_, fun e => ?_⟩, ?_⟩
  · exact (execOp_put oj hsj a oi.dst v h1).symm
  · exact (wanted_put oj a oi.dst v h1).symm
  · have := hu2 e; rwa [execOp_put oj hsj a oi.dst v h1] at this
  · exact execOp_put oi hsi a oj.dst u h3
  · exact wanted_put oi a oj.dst u h3
  · have := hy.2 e; rwa [execOp_put oi hsi a oj.dst u h3]
  · rw [← Act.put_comm a v u h2]; exact hn
/-- the walk in the order of the text, number k first -/
def wpM (P : Program) (md : Region.Mode) (ops : Array Oper) (C : Array Bool → World → Prop) (nn : Nat → Bool) (x : Nat → Value) (T : Nat → Sem Next → Prop) (Q : Act → Prop) : List Oper → Nat → Act → Prop
  | [], _, a => Q a
  | o :: rest, k, a => ∃ v, (YieldsM P md ops C nn x k o v a ∧ (nn k = true → T k (execOp a.eval o))) ∧ wpM P md ops C nn x T Q rest (k + 1) (a.put o.dst v)
def uponN (P : Program) (Post : Value → World → Prop) : Result Next → Prop
  | .ok (.value u) w' => Post u w'
  | .ok (.enter f args) w' => Calls P f args w' (fun e w'' => ∃ u, e = .returned u ∧ Post u w'')
  | _ => False
theorem uponN_mono {P : Program} {Post Post' : Value → World → Prop} {r : Result Next} (h : ∀ v w, Post v w → Post' v w) (hr : uponN P Post r) : uponN P Post' r := by
  cases r with
  | ok n w' =>
    cases n <;> simp only [uponN] at hr ⊢
    case value u => exact h _ _ hr
    case enter f args => exact hr.mono fun e w'' ⟨u, he, hp⟩ => ⟨u, he, h _ _ hp⟩
  | halt y w' => simp only [uponN] at hr
end
section
variable {P : Program} {ops : Array Oper} {rest : List Oper} {o : Oper} {a : Act} {Q : Act → Prop} {F : (Nat → Bool) → World → Prop} {js : List Nat} {k : Nat} {nn : Nat → Bool} {md : Region.Mode} {x : Nat → Value} {T : Nat → Sem Next → Prop}
end
end Go.Proofs.Ytmbokdnndlnjkaa
namespace Go.Proofs.Ytmbokdnndlnjkaa
open Go.RowKit L02 L13 L18 L20
structure GMod where
  t : Value
  o : Value
  s : Value
  W1 : World
def GMod.val (g : GMod) : Value := .agg #[g.t, g.o, g.s]
theorem OwnM.forms {w : World} {B E : Nat} {tv ov sv : Value} {m : Mo} (h : OwnM w B E tv ov sv m) : (∃ A n c, tv = .slice A n c) ∧ (∃ A n c, ov = .slice A n c) ∧ ∃ A n c, sv = .slice A n c := by
  obtain ⟨⟨_, _, z2, _⟩, ⟨_, _, y2, _⟩, s⟩ := h
  obtain ⟨A, c, e⟩ := own_form' z2; obtain ⟨A', c', e'⟩ := own_form' y2; obtain ⟨A'', c'', e''⟩ := own_form' s
  exact ⟨⟨A, _, c, e⟩, ⟨A', _, c', e'⟩, ⟨A'', _, c'', e''⟩⟩
end Go.Proofs.Ytmbokdnndlnjkaa
namespace Go.Proofs.Ytmbokdnndlnjkaa
open Go.RowKit L02 L13 L18 L20
theorem tabL_set (S : List Sl) (k : Nat) (s : Sl) (hk : k < S.length) : (((tabL S).set (k * 3) (.int .i64 s.gen)).set (k * 3 + 1) (.bool s.used)).set (k * 3 + 2) (.int .i64 s.at_) = tabL (S.set k s) := by
  apply List.ext_getElem?
  intro i
  by_cases hi : i < S.length * 3
  · obtain ⟨q, r, hr, rfl⟩ : ∃ q r, r < 3 ∧ i = q * 3 + r := ⟨i / 3, i % 3, Nat.mod_lt _ (by omega), by omega⟩
    have hq : q < S.length := by omega
    by_cases hqk : q = k
    · subst hqk
      have h1 := tabL_get (S.set q s) q s (by simp [hq]) r hr
      rw [h1]
      have hl : (tabL S).length = S.length * 3 := tabL_len S
      have : r = 0 ∨ r = 1 ∨ r = 2 := by omega
      rcases this with rfl | rfl | rfl
      · rw [List.getElem?_set_ne (by omega), List.getElem?_set_ne (by omega), Nat.add_zero, List.getElem?_set_self (by omega)]; rfl
      · rw [List.getElem?_set_ne (by omega), List.getElem?_set_self (by simp; omega)]; rfl
      · rw [List.getElem?_set_self (by simp; omega)]; rfl
    · have hs : S[q]? = some S[q] := List.getElem?_eq_getElem hq
      have h1 := tabL_get (S.set k s) q S[q] (by rw [List.getElem?_set_ne (Ne.symm hqk)]; exact hs) r hr
      have h2 := tabL_get S q S[q] hs r hr
      rw [h1, List.getElem?_set_ne (by omega), List.getElem?_set_ne (by omega), List.getElem?_set_ne (by omega), h2]
  · rw [List.getElem?_eq_none (by simp [tabL_len]; omega), List.getElem?_eq_none (by simp [tabL_len]; omega)]
/-- one slot is stored -/
theorem OwnS.put3 {w : World} {B E g n c k : Nat} {S : List Sl} (h : OwnS w B E (.slice (some ⟨g, 0, none⟩) n c) S) (hk : k < S.length) (s : Sl) :
    OwnS (((w.setCell ⟨g, k * 3, none⟩ (.int .i64 s.gen)).setCell ⟨g, k * 3 + 1, none⟩ (.bool s.used)).setCell ⟨g, k * 3 + 2, none⟩ (.int .i64 s.at_)) B E (.slice (some ⟨g, 0, none⟩) n c) (S.set k s) ∧
      w.grownBy (((w.setCell ⟨g, k * 3, none⟩ (.int .i64 s.gen)).setCell ⟨g, k * 3 + 1, none⟩ (.bool s.used)).setCell ⟨g, k * 3 + 2, none⟩ (.int .i64 s.at_)) (some g) ∧ B ≤ g ∧ g < w.heap.size ∧ ∀ j, w.frozen? ⟨g, j, none⟩ = false := by
  have hn : n = S.length := by
    obtain ⟨g', cap, cur, hv, _⟩ := own_form h (by omega)
    injection hv
  subst hn
  have h1 := World.ownsRow.stored h (k * 3) (.int .i64 s.gen)
  have h2 := World.ownsRow.stored h1.1 (k * 3 + 1) (.bool s.used)
  have h3 := World.ownsRow.stored h2.1 (k * 3 + 2) (.int .i64 s.at_)
  have hl := h.lt g rfl
  refine ⟨?_, ⟨rfl, rfl, rfl, ?_, fun q hq hne => ?_⟩, hl.1, hl.2, fun j => h.frozenAt j⟩
  · unfold OwnS
    rw [← tabL_set S k s hk, List.length_set]
    exact h3.1
  · simp [World.setCell]
  · exact (h3.2.block q (by simpa [World.setCell] using hq) hne).trans ((h2.2.block q (by simpa [World.setCell] using hq) hne).trans (h1.2.block q hq hne))
theorem OwnS.form {w : World} {B E : Nat} {v : Value} {S : List Sl} (h : OwnS w B E v S) (hn : 0 < S.length) : ∃ g n c, v = .slice (some ⟨g, 0, none⟩) n c ∧ n = S.length := by
  obtain ⟨g, cap, cur, hv, _⟩ := own_form h hn
  exact ⟨g, _, cap, hv, rfl⟩
theorem OwnS.cells {w : World} {B E g n c k : Nat} {S : List Sl} {s : Sl} (h : OwnS w B E (.slice (some ⟨g, 0, none⟩) n c) S) (hs : S[k]? = some s) :
    (∀ W, (Instr.indexAt 60 (.slice (some ⟨g, 0, none⟩) n c) (.int .i64 (k : Int))).run Try.prog W = .ok (.pointer (some ⟨g, k * 3, none⟩)) W) ∧ w.cell? ⟨g, k * 3, none⟩ = some (.int .i64 s.gen) ∧ w.cell? ⟨g, k * 3 + 1, none⟩ = some (.bool s.used) ∧ w.cell? ⟨g, k * 3 + 2, none⟩ = some (.int .i64 s.at_) := by
  have hk : k < S.length := (List.getElem?_eq_some_iff.1 hs).1
  have t0 := Rd.cell (OwnS.rd h) (tabL_get S k s hs 0 (by omega))
  have t1 := Rd.cell (OwnS.rd h) (tabL_get S k s hs 1 (by omega))
  have t2 := Rd.cell (OwnS.rd h) (tabL_get S k s hs 2 (by omega))
  refine ⟨fun W => ?_, ?_, ?_, ?_⟩
  · have := Rd.ixN (P := Try.prog) (OwnS.rd h) Try.underlying60 size_slot hk W
    simpa [cellAt] using this
  · simpa [cellAt] using t0
  · simpa [cellAt] using t1
  · simpa [cellAt] using t2
/-- a model's own slots changed, all else kept -/
theorem OwnM.slots {w W : World} {B g n c : Nat} {tv ov : Value} {m : Mo} {S : List Sl} (h : OwnM w B 46 tv ov (.slice (some ⟨g, 0, none⟩) n c) m) (hg : w.grownBy W (some g)) (hS : OwnS W B 46 (.slice (some ⟨g, 0, none⟩) n c) S) :
    OwnM W B 46 tv ov (.slice (some ⟨g, 0, none⟩) n c) ⟨m.types, m.objs, S⟩ := by
  refine ⟨OwnT.kept h.t h.s hg (by decide) (by decide), ?_, hS⟩
  obtain ⟨vs, a1, a2, a4, a5⟩ := h.o
  exact ⟨vs, a1, World.ownsRow.kept a2 hg (own_unlike a2 h.s (by decide)), fun i x l h5 h6 => World.ownsRow.kept (a4 i x l h5 h6) hg (own_unlike (a4 i x l h5 h6) h.s (by decide)), a5⟩
/-- all old blocks but one are as they were -/
def Keep (w w' : World) (row : Option Nat) : Prop := w.heap.size ≤ w'.heap.size ∧ ∀ k, k < w.heap.size → some k ≠ row → w'.heap[k]? = w.heap[k]?
theorem Keep.of_below {w w' : World} {row : Option Nat} (h : Below w.heap.size w w') : Keep w w' row := ⟨h.size, fun k hk _ => h.block k hk⟩
theorem Keep.grown {w w' w'' : World} {row : Option Nat} (h : Keep w w' row) (hg : w'.grownBy w'' row) : Keep w w'' row := ⟨Nat.le_trans h.1 hg.size, fun k hk hr => (hg.block k (Nat.lt_of_lt_of_le hk h.1) hr).trans (h.2 k hk hr)⟩
theorem Keep.setCell {w w' : World} {row : Option Nat} (h : Keep w w' row) {p : Addr} (hp : w.heap.size ≤ p.block) (u : Value) : Keep w (w'.setCell p u) row :=
  ⟨by simpa [World.setCell] using h.1, fun k hk hr => (Below.heap_setCell w' p u k (by omega)).trans (h.2 k hk hr)⟩
theorem Bx.keep {w w' : World} {g : Nat} {t : TypeId} {cs : Array Value} {row : Option Nat} (h : Bx w g t cs) (hk : Keep w w' row) (hne : row = none ∨ row ≠ some g) : Bx w' g t cs := by
  have hl := h.lt
  unfold Bx at *
  rw [hk.2 g hl (by rcases hne with rfl | h; · simp
                    · exact fun e => h e.symm)]
  exact h
theorem OwnM.setH {w : World} {B p i : Nat} {tv ov sv u : Value} {m : Mo} {cs : Array Value} (h : OwnM w B 46 tv ov sv m) (hg : Bx w p 35 cs) : OwnM (w.setCell ⟨p, i, none⟩ u) B 46 tv ov sv m :=
  ⟨h.t.set hg (by decide) (by decide), h.o.set hg (by decide) (by decide), own_set h.s hg (by decide)⟩
set_option maxRecDepth 100000 in
set_option maxHeartbeats 4000000 in
theorem handle_ok (tv ov sv : Value) (m : Mo) (n : Int) (kk : Nat) (s : Sl) (hnx : next m.slots = some kk) (hs : m.slots[kk]? = some s) (hgen : ∀ s ∈ m.slots, 0 ≤ s.gen ∧ s.gen ≤ 2147483647) (hlen : m.slots.length = 16) (B0 : Nat) (w : World) (h : OwnM w B0 46 tv ov sv m) (hB : B0 ≤ w.heap.size) :
    Calls Try.prog 81 #[.agg #[tv, ov, sv], .int .i64 n] w fun e w' => e = .returned (.tuple #[.agg #[.int .i64 kk, .int .i64 (s.gen + 1)], .bool true]) ∧ OwnM w' B0 46 tv ov sv ⟨m.types, m.objs, m.slots.set kk ⟨s.gen + 1, true, n⟩⟩ ∧ Below B0 w w' ∧ Keep w w' sv.ownBlock := by
  have B : Below w.heap.size w w := Below.refl _ _
  obtain ⟨gS, sc, rfl⟩ : ∃ g c, sv = .slice (some ⟨g, 0, none⟩) 16 c := by obtain ⟨g, n, c, e, e2⟩ := h.s.form (by omega); rw [e2, hlen] at e; exact ⟨g, c, e⟩
  have ls := h.rd.s.len
  rw [hlen] at ls
  obtain ⟨_, ⟨s', hs', hu, hg1⟩, hbefore⟩ := nextFrom_some hnx
  rw [Nat.sub_zero] at hs' hbefore
  obtain rfl : s' = s := by rw [hs] at hs'; injection hs' with e; exact e.symm
  have hkk : kk < 16 := by have := (List.getElem?_eq_some_iff.1 hs).1; omega
  have hg2 := hgen s' (List.mem_of_getElem? hs)
  have H := Lib.hid h; have HS := Lib.hid hs; have HBF := Lib.hid hbefore; have HL := Lib.hid hlen; have HGEN := Lib.hid hgen
  have hmx : s'.gen < 2147483647 := by omega
  obtain ⟨gn, us, sa⟩ := s'
  dsimp only at hu hmx hg2 ⊢
  subst hu
  have hwr : IntKind.i64.wrap (gn + 1) = gn + 1 := IntWalk.i64_in _ (by omega)
  clear hs hs' hbefore hnx hgen hg1
  go_enter Try.func81, Try.ntmps81
  go_upto_region 1 with (fail)
  refine wp_gen (fun Wv => Bx Wv (w.heap.size) (85) (#[tv, ov, .slice (some ⟨gS, 0, none⟩) 16 sc]) ∧ Bx Wv (w.heap.size + 1) (35) (#[.int .i64 0, .int .i64 0]) ∧ Below w.heap.size w Wv) ⟨(((Bx.at_ (by simp)).alloc _)), ((Bx.at_ (by simp))), (((Below.refl _ w).alloc (by simp <;> omega) _).alloc (by simp <;> omega) _)⟩ ?_
  rintro wa1 ⟨g1, g2, b⟩
  replace B := B.trans (b.mono B.size); clear b
  have c_g1 := g1.cell; have f_g1 := g1.free; have a_g1 := fun o => (g1.alloc o).cell; have d_g1 := fun o o2 => ((g1.alloc o).alloc o2).cell; have e_g1 := fun o => (g1.alloc o).free
  have c_g2 := g2.cell; have f_g2 := g2.free; have a_g2 := fun o => (g2.alloc o).cell; have d_g2 := fun o o2 => ((g2.alloc o).alloc o2).cell; have e_g2 := fun o => (g2.alloc o).free
  have HG := Lib.hid (And.intro g1 (And.intro g2 B))
  clear g1 g2 B c_g1 c_g2 f_g1 f_g2 a_g1 a_g2 d_g1 d_g2 e_g1 e_g2
  have hwa := HG.out.1.cell
  go_wp2
  clear hwa
  go_loopg [11] kk (fun g i wr => ∃ j : Nat, j ≤ kk ∧ g = kk - j ∧ i = .int .i64 j ∧ Hid (Bx wr w.heap.size 85 #[tv, ov, .slice (some ⟨gS, 0, none⟩) 16 sc] ∧ Bx wr (w.heap.size + 1) 35 #[.int .i64 0, .int .i64 0] ∧ Below w.heap.size w wr))
  case atStart => exact ⟨0, by omega, by omega, rfl, HG⟩
  case round =>
    clear HG
    obtain ⟨j, hj, rfl, rfl, hh⟩ := hrel
    obtain ⟨g1, g2, B⟩ := hh.out
    have hj16 : j < 16 := by omega
    have hx : m.slots[j]? = some (m.slots[j]'(by have := HL.out; omega)) := List.getElem?_eq_getElem _
    obtain ⟨x, hxx⟩ : ∃ x, x = m.slots[j]'(by have := HL.out; omega) := ⟨_, rfl⟩
    rw [← hxx] at hx; clear hxx
    obtain ⟨ix, m0, m1, m2⟩ := OwnS.cells (H.out.s.below B) hx
    have HX := Lib.hid hx; clear hx hh
    obtain ⟨xg, xu, xa⟩ := x
    dsimp only at m0 m1 m2
    have hzr := B.size
    go_upto_region 4 with (fail)
    refine wp_gen (fun Wv => Bx Wv (wr.heap.size) (46) (#[.int .i64 xg, .bool xu, .int .i64 xa]) ∧ Below wr.heap.size wr Wv) ⟨((Bx.at_ (by simp))), ((Below.refl _ wr).alloc (by simp <;> omega) _)⟩ ?_
    rintro wa1 ⟨g3, b⟩
    try clear c_g1 f_g1 a_g1 d_g1 e_g1
    replace g1 := g1.below b; have c_g1 := g1.cell; have f_g1 := g1.free; have a_g1 := fun o => (g1.alloc o).cell; have d_g1 := fun o o2 => ((g1.alloc o).alloc o2).cell; have e_g1 := fun o => (g1.alloc o).free; try clear c_g2 f_g2 a_g2 d_g2 e_g2
    replace g2 := g2.below b; have c_g2 := g2.cell; have f_g2 := g2.free; have a_g2 := fun o => (g2.alloc o).cell; have d_g2 := fun o o2 => ((g2.alloc o).alloc o2).cell; have e_g2 := fun o => (g2.alloc o).free; replace B := B.trans (b.mono B.size); clear b
    have c_g3 := g3.cell; have f_g3 := g3.free; have a_g3 := fun o => (g3.alloc o).cell; have d_g3 := fun o o2 => ((g3.alloc o).alloc o2).cell; have e_g3 := fun o => (g3.alloc o).free
    clear m0 m1 m2
    by_cases hjk : j = kk
    · subst hjk
      have e1 : (⟨xg, xu, xa⟩ : Sl) = ⟨gn, false, sa⟩ := by have := HX.out; rw [HS.out] at this; injection this with e; exact e.symm
      injection e1 with e1 e2 e3
      subst e1; subst e2; subst e3
      have HP := Lib.hid (OwnS.put3 (k := j) (H.out.s.below B) (by have := HL.out; omega) ⟨xg + 1, true, n⟩)
      obtain ⟨_, p0, p1, p2⟩ := OwnS.cells (H.out.s.below B) HX.out
      have fz := HP.out.2.2.2.2
      have HO := Lib.hid (H.out.below B)
      have hne1 : gS ≠ w.heap.size := by
        rcases own_not_bx HO.out.s g1 (by decide) with h | h
        · simp [Value.ownBlock] at h
        · intro e; exact h (by simp [Value.ownBlock, e])
      have hne2 : gS ≠ w.heap.size + 1 := by
        rcases own_not_bx HO.out.s g2 (by decide) with h | h
        · simp [Value.ownBlock] at h
        · intro e; exact h (by simp [Value.ownBlock, e])
      have hne3 : gS ≠ wr.heap.size := by
        have h1 := (H.out.s.lt gS rfl).2; have h2 := hzr; omega
      have fz2 := g2.free
      go_wp2
      refine bodyPost_ret (v := .tuple #[.agg #[.int .i64 j, .int .i64 (xg + 1)], .bool true]) (by simp [results, Try.results81, go_sem, c_g2]) rfl ?_
      have b0 := H.out.below B
      have hM3 := OwnM.slots b0 HP.out.2.1 HP.out.1
      have r2 : Bx _ (w.heap.size + 1) 35 _ := g2.grown HP.out.2.1 (.inr (fun e => hne2 (by injection e)))
      have hb1 : Keep w _ (some gS) := (Keep.of_below B).grown HP.out.2.1
      have hB3 := (B.mono hB).grown HP.out.2.1 (Nat.le_trans hB B.size) (fun k hk => by injection hk with hk; rw [← hk]; exact HP.out.2.2.1)
      refine ⟨rfl, (hM3.setH r2).setH (r2.set _), ?_, ?_⟩
      · exact (hB3.setCell (p := ⟨w.heap.size + 1, 0, none⟩) (by simp; omega) _).setCell (p := ⟨w.heap.size + 1, 1, none⟩) (by simp; omega) _
      · exact (hb1.setCell (p := ⟨w.heap.size + 1, 0, none⟩) (by simp) _).setCell (p := ⟨w.heap.size + 1, 1, none⟩) (by simp) _
    · have hjk2 : j < kk := by omega
      have hnf := HBF.out j _ hjk2 HX.out
      have hgx := HGEN.out _ (List.mem_of_getElem? HX.out)
      dsimp only at hnf hgx
      have hj2 : (j : Int) < 16 := by omega
      have HH := Lib.hid (And.intro g1 (And.intro g2 B))
      cases xu
      · have hge : ¬ xg < 2147483647 := fun h => hnf ⟨rfl, by omega⟩
        clear hnf
        go_wp2
        clear g1 g2 g3 B c_g1 c_g2 f_g1 f_g2 a_g1 a_g2 d_g1 d_g2 e_g1 e_g2 c_g3 f_g3 a_g3 d_g3 e_g3
        go_roundg (kk - (j + 1))
        case measure => omega
        case rel => exact ⟨j + 1, by omega, rfl, by go_num, HH⟩
      · clear hnf
        go_wp2
        clear g1 g2 g3 B c_g1 c_g2 f_g1 f_g2 a_g1 a_g2 d_g1 d_g2 e_g1 e_g2 c_g3 f_g3 a_g3 d_g3 e_g3
        go_roundg (kk - (j + 1))
        case measure => omega
        case rel => exact ⟨j + 1, by omega, rfl, by go_num, HH⟩
set_option maxRecDepth 100000 in
set_option maxHeartbeats 4000000 in
theorem handle_no (tv ov sv : Value) (m : Mo) (n : Int) (hnx : next m.slots = none) (hgen : ∀ s ∈ m.slots, 0 ≤ s.gen ∧ s.gen ≤ 2147483647) (hlen : m.slots.length = 16) (w : World) (h : Mod w tv ov sv m) :
    Calls Try.prog 81 #[.agg #[tv, ov, sv], .int .i64 n] w fun e w' => e = .returned (.tuple #[.agg #[.int .i64 0, .int .i64 0], .bool false]) ∧ Below w.heap.size w w' := by
  have B : Below w.heap.size w w := Below.refl _ _
  have ls := h.s.len
  rw [hlen] at ls
  have hall : ∀ (j : Nat) (s : Sl), m.slots[j]? = some s → ¬ (s.used = false ∧ s.gen < 2147483647) := by
    have aux : ∀ (L : List Sl) (k : Nat), nextFrom L k = none → ∀ (j : Nat) (s : Sl), L[j]? = some s → ¬ (s.used = false ∧ s.gen ≠ 2147483647) := by
      intro L
      induction L with
      | nil => intro k _ j s hs; simp at hs
      | cons x L ih =>
        intro k hk j s hs
        rw [nextFrom] at hk
        split at hk
        · cases hk
        · rename_i hx
          cases j with
          | zero => simp at hs; subst hs; exact hx
          | succ j => exact ih _ hk j s (by simpa using hs)
    intro j s hs hh
    exact aux _ _ hnx j s hs ⟨hh.1, by have := hh.2; omega⟩
  have H := Lib.hid h; have HL := Lib.hid hlen; have HA := Lib.hid hall
  clear hnx hgen hlen h hall
  go_enter Try.func81, Try.ntmps81
  go_upto_region 1 with (fail)
  refine wp_gen (fun Wv => Bx Wv (w.heap.size) (85) (#[tv, ov, sv]) ∧ Bx Wv (w.heap.size + 1) (35) (#[.int .i64 0, .int .i64 0]) ∧ Below w.heap.size w Wv) ⟨(((Bx.at_ (by simp)).alloc _)), ((Bx.at_ (by simp))), (((Below.refl _ w).alloc (by simp <;> omega) _).alloc (by simp <;> omega) _)⟩ ?_
  rintro wa1 ⟨g1, g2, b⟩
  replace B := B.trans (b.mono B.size); clear b
  have c_g1 := g1.cell; have f_g1 := g1.free; have a_g1 := fun o => (g1.alloc o).cell; have d_g1 := fun o o2 => ((g1.alloc o).alloc o2).cell; have e_g1 := fun o => (g1.alloc o).free
  have c_g2 := g2.cell; have f_g2 := g2.free; have a_g2 := fun o => (g2.alloc o).cell; have d_g2 := fun o o2 => ((g2.alloc o).alloc o2).cell; have e_g2 := fun o => (g2.alloc o).free
  have HG := Lib.hid (And.intro g1 (And.intro g2 B))
  clear g1 g2 B c_g1 c_g2 f_g1 f_g2 a_g1 a_g2 d_g1 d_g2 e_g1 e_g2
  have hwa := HG.out.1.cell
  go_wp2
  clear hwa
  go_loopg [11] 16 (fun g i wr => ∃ j : Nat, j ≤ 16 ∧ g = 16 - j ∧ i = .int .i64 j ∧ Hid (Bx wr w.heap.size 85 #[tv, ov, sv] ∧ Bx wr (w.heap.size + 1) 35 #[.int .i64 0, .int .i64 0] ∧ Below w.heap.size w wr))
  case atStart => exact ⟨0, by omega, by omega, rfl, HG⟩
  case round =>
    clear HG
    obtain ⟨j, hj, rfl, rfl, hh⟩ := hrel
    obtain ⟨g1, g2, B⟩ := hh.out
    clear hh
    by_cases hlt : j < 16
    · obtain ⟨b, o, s, ix, m0, m1, m2, hs⟩ := (H.out.s.below B).at_ (P := Try.prog) Try.underlying60 size_slot (k := j) (by have := HL.out; omega)
      have hnf := HA.out j s hs.out
      clear hs
      obtain ⟨xg, xu, xa⟩ := s
      dsimp only at m0 m1 m2 hnf
      go_upto_region 4 with (fail)
      refine wp_gen (fun Wv => Bx Wv (wr.heap.size) (46) (#[.int .i64 xg, .bool xu, .int .i64 xa]) ∧ Below wr.heap.size wr Wv) ⟨((Bx.at_ (by simp))), ((Below.refl _ wr).alloc (by simp <;> omega) _)⟩ ?_
      rintro wa1 ⟨g3, b⟩
      try clear c_g1 f_g1 a_g1 d_g1 e_g1
      replace g1 := g1.below b; have c_g1 := g1.cell; have f_g1 := g1.free; have a_g1 := fun o => (g1.alloc o).cell; have d_g1 := fun o o2 => ((g1.alloc o).alloc o2).cell; have e_g1 := fun o => (g1.alloc o).free; try clear c_g2 f_g2 a_g2 d_g2 e_g2
      replace g2 := g2.below b; have c_g2 := g2.cell; have f_g2 := g2.free; have a_g2 := fun o => (g2.alloc o).cell; have d_g2 := fun o o2 => ((g2.alloc o).alloc o2).cell; have e_g2 := fun o => (g2.alloc o).free; replace B := B.trans (b.mono B.size); clear b
      have c_g3 := g3.cell; have f_g3 := g3.free; have a_g3 := fun o => (g3.alloc o).cell; have d_g3 := fun o o2 => ((g3.alloc o).alloc o2).cell; have e_g3 := fun o => (g3.alloc o).free
      clear m0 m1 m2
      have HH := Lib.hid (And.intro g1 (And.intro g2 B))
      cases xu
      · have hge : ¬ xg < 2147483647 := fun h => hnf ⟨rfl, h⟩
        clear hnf
        go_wp2
        clear g1 g2 g3 B c_g1 c_g2 f_g1 f_g2 a_g1 a_g2 d_g1 d_g2 e_g1 e_g2 c_g3 f_g3 a_g3 d_g3 e_g3
        go_roundg (16 - (j + 1))
        case measure => omega
        case rel => exact ⟨j + 1, by omega, rfl, by go_num, HH⟩
      · clear hnf
        go_wp2
        clear g1 g2 g3 B c_g1 c_g2 f_g1 f_g2 a_g1 a_g2 d_g1 d_g2 e_g1 e_g2 c_g3 f_g3 a_g3 d_g3 e_g3
        go_roundg (16 - (j + 1))
        case measure => omega
        case rel => exact ⟨j + 1, by omega, rfl, by go_num, HH⟩
    · obtain rfl : j = 16 := by omega
      have c_g2 := g2.cell; have f_g2 := g2.free
      go_wp2
      refine bodyPost_ret (v := .tuple #[.agg #[.int .i64 0, .int .i64 0], .bool false]) (by simp [results, Try.results81, go_sem, c_g2]) rfl ⟨rfl, ?_⟩
      exact (B.setCell (p := ⟨w.heap.size + 1, 0, none⟩) (by simp) _).setCell (p := ⟨w.heap.size + 1, 1, none⟩) (by simp) _
end Go.Proofs.Ytmbokdnndlnjkaa
