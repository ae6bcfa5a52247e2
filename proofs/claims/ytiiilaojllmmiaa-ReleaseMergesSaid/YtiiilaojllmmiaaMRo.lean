/- Contracts of the functions that the laws 'R' reach, part 15. No condition. -/
import Derived.Test.YtiiilaojllmmiaaMRn
set_option linter.unusedVariables false
set_option linter.unusedSimpArgs false
namespace Go.Proofs.Ytiiilaojllmmiaa
open Go.RowKit L02 L13 L18 L20
structure GCopy where
  y : Value
  W1 : World
  v : Value
  W3 : World
theorem enter_CloneB (x : Value) (W : World) : (callFunc 140 (#[] ++ #[x] ++ #[])).run Try.prog W = .ok (.enter 140 #[x]) W := by
  simp [go_sem]
/-- the worlds of a round that copies one type -/
def wsT (w : World) (p : Nat) (g : GCopy) : Nat → World
  | 0 => w.drew
  | 1 => g.W1
  | 2 => g.W1.alloc (.cells #[g.y] 68)
  | 3 => g.W3
  | _ => g.W3.setCell ⟨p, 0, none⟩ g.v
theorem enter_CloneW (x : Value) (W : World) : (callFunc 82 (#[] ++ #[x] ++ #[])).run Try.prog W = .ok (.enter 82 #[x]) W := by
  simp [go_sem]
/-- the worlds of a round that copies one object -/
def wsO (w : World) (p : Nat) (ty : Int) (g : GCopy) : Nat → World
  | 0 => w.drew
  | 1 => g.W1
  | 2 => g.W1
  | 3 => g.W1.alloc (.cells #[i64 ty, g.y] 140)
  | 4 => g.W3
  | _ => g.W3.setCell ⟨p, 1, none⟩ g.v
set_option maxRecDepth 100000 in
set_option maxHeartbeats 4000000 in
theorem copied_any (tv ov sv : Value) (m : Mo) (hsm : Small m) (w : World) (h : Mod w tv ov sv m) :
    Calls Try.prog 121 #[.agg #[tv, ov, sv]] w fun e w' => ∃ tv' ov' sv', e = .returned (.agg #[tv', ov', sv']) ∧ OwnM w' w.heap.size 55 tv' ov' sv' m ∧ Below w.heap.size w w' := by
  have B : Below w.heap.size w w := Below.refl _ _
  have lt := h.t.len; have lo := h.o.len
  obtain ⟨NT, hNT⟩ : ∃ N, N = m.types.length := ⟨_, rfl⟩
  obtain ⟨NO, hNO⟩ : ∃ N, N = m.objs.length := ⟨_, rfl⟩
  rw [← hNT] at lt; rw [← hNO] at lo
  obtain ⟨s1, s2, s3, s4, s5⟩ := hsm
  have CS := Lib.hid (fun w h => CloneS_any sv m.slots (by omega) w h)
  have hNT20 : NT ≤ 20 := by omega
  have hNO962 : NO ≤ 962 := by omega
  have H := Lib.hid h; have HNT := Lib.hid hNT; have HNO := Lib.hid hNO; have S4 := Lib.hid s4; have S5 := Lib.hid s5
  clear h hNT hNO s4 s5 s1 s2 s3
  go_enter Try.func121, Try.ntmps121
  go_upto_region 1 with (fail)
  refine wp_gen (fun Wv => Bx Wv (w.heap.size) (87) (#[tv, ov, sv]) ∧ Bx Wv (w.heap.size + 1) (87) (#[.slice none 0 0, .slice none 0 0, .slice none 0 0]) ∧ Below w.heap.size w Wv) ⟨(((Bx.at_ (by simp)).alloc _)), ((Bx.at_ (by simp))), (((Below.refl _ w).alloc (by simp <;> omega) _).alloc (by simp <;> omega) _)⟩ ?_
  rintro wa1 ⟨g1, g2, b⟩
  replace B := B.trans (b.mono B.size); clear b
  have c_g1 := g1.cell; have f_g1 := g1.free; have a_g1 := fun o => (g1.alloc o).cell; have d_g1 := fun o o2 => ((g1.alloc o).alloc o2).cell; have e_g1 := fun o => (g1.alloc o).free
  have c_g2 := g2.cell; have f_g2 := g2.free; have a_g2 := fun o => (g2.alloc o).cell; have d_g2 := fun o o2 => ((g2.alloc o).alloc o2).cell; have e_g2 := fun o => (g2.alloc o).free
  have hz1 := B.size
  go_wp2_with fail
  refine (CS.out _ (H.out.s.below B)).mono ?_
  rintro e wa2 ⟨ys, rfl, oS, b⟩
  try clear c_g1 f_g1 a_g1 d_g1 e_g1
  replace g1 := g1.below b; have c_g1 := g1.cell; have f_g1 := g1.free; have a_g1 := fun o => (g1.alloc o).cell; have d_g1 := fun o o2 => ((g1.alloc o).alloc o2).cell; have e_g1 := fun o => (g1.alloc o).free; try clear c_g2 f_g2 a_g2 d_g2 e_g2
  replace g2 := g2.below b; have c_g2 := g2.cell; have f_g2 := g2.free; have a_g2 := fun o => (g2.alloc o).cell; have d_g2 := fun o o2 => ((g2.alloc o).alloc o2).cell; have e_g2 := fun o => (g2.alloc o).free; replace B := B.trans (b.mono B.size); clear b
  obtain ⟨yA, yn, yc, rfl⟩ : ∃ A n c, ys = .slice A n c := by obtain ⟨A, c, e⟩ := own_form' oS; exact ⟨A, _, c, e⟩
  have hq1 := g1.lt; have hq2 := g2.lt; have hp0 := B.size
  replace oS : OwnS _ w.heap.size 55 _ m.slots := own_mono oS hz1
  go_upto_region 2 with (fail)
  refine wp_gen (fun Wv => Bx Wv (wa2.heap.size) (87) (#[.slice none 0 0, .slice none 0 0, .slice yA yn yc]) ∧ Below wa2.heap.size wa2 Wv) ⟨((Bx.at_ (by simp))), ((Below.refl _ wa2).alloc (by simp <;> omega) _)⟩ ?_
  rintro wa3 ⟨g3, b⟩
  try clear c_g1 f_g1 a_g1 d_g1 e_g1
  replace g1 := g1.below b; have c_g1 := g1.cell; have f_g1 := g1.free; have a_g1 := fun o => (g1.alloc o).cell; have d_g1 := fun o o2 => ((g1.alloc o).alloc o2).cell; have e_g1 := fun o => (g1.alloc o).free; try clear c_g2 f_g2 a_g2 d_g2 e_g2
  replace g2 := g2.below b; have c_g2 := g2.cell; have f_g2 := g2.free; have a_g2 := fun o => (g2.alloc o).cell; have d_g2 := fun o o2 => ((g2.alloc o).alloc o2).cell; have e_g2 := fun o => (g2.alloc o).free; replace oS := oS.below b; replace B := B.trans (b.mono B.size); clear b
  have c_g3 := g3.cell; have f_g3 := g3.free; have a_g3 := fun o => (g3.alloc o).cell; have d_g3 := fun o o2 => ((g3.alloc o).alloc o2).cell; have e_g3 := fun o => (g3.alloc o).free
  generalize wa2.heap.size = p at *
  have HB := Lib.hid B; have HG := Lib.hid (And.intro g1 (And.intro g2 (And.intro g3 oS)))
  clear B g1 g2 g3 oS c_g1 c_g2 f_g1 f_g2 a_g1 a_g2 d_g1 d_g2 e_g1 e_g2 c_g3 f_g3 a_g3 d_g3 e_g3
  have hwa := HG.out.1.cell
  go_wp2
  clear hwa
  go_loopg [15] NT (fun g i wr => ∃ j : Nat, j ≤ NT ∧ g = NT - j ∧ i = .int .i64 j ∧ Hid (∃ xt, OwnT wr w.heap.size xt (m.types.take j) ∧ Bx wr w.heap.size 87 #[tv, ov, sv] ∧ Bx wr (w.heap.size + 1) 87 #[.slice none 0 0, .slice none 0 0, .slice none 0 0] ∧ Bx wr p 87 #[xt, .slice none 0 0, .slice yA yn yc] ∧ OwnS wr w.heap.size 55 (.slice yA yn yc) m.slots ∧ Below w.heap.size w wr))
  case atStart => exact ⟨0, by omega, by omega, rfl, Lib.hid ⟨_, OwnT.nil _ _, HG.out.1, HG.out.2.1, HG.out.2.2.1, HG.out.2.2.2, HB.out⟩⟩
  case round =>
    clear HG HB
    obtain ⟨j, hj, rfl, rfl, hh⟩ := hrel
    by_cases hlt : j < NT
    · obtain ⟨xt, oT, q1, q2, q3, oS, B⟩ := hh.out
      obtain ⟨ad, x, t, ix, m0, ht, hby⟩ := (H.out.t.below B).at_ (k := j) (by have := HNT.out; omega)
      have htl : t.length ≤ 20 := S4.out t (List.mem_of_getElem? ht.out)
      have CB := Lib.hid (fun w h => CloneB_any x t (by omega) w h)
      obtain ⟨vs, z1, z2, z4⟩ := oT
      have hB := B.size
      have htk : (m.types.take j).length = j := by rw [List.length_take]; have := HNT.out; omega
      go_upto_region 5 with (fail)
      have HT := Lib.hid ht; have HQ := Lib.hid (And.intro q1 (And.intro q2 (And.intro q3 (And.intro oS (And.intro B (And.intro z1 (And.intro z2 z4))))))) 
      have c3 := q3.cell
      refine wp_region_G (val := GCopy.y) (V := fun g => OwnB g.W1 wr.heap.size 5 g.y t ∧ Below wr.heap.size wr g.W1 ∧ (Builtin.append_ #[84, 84] 84 #[xt, .slice (some ⟨g.W1.heap.size, 0, none⟩) 1 1]).run Try.prog (g.W1.alloc (.cells #[g.y] 68)) = .ok g.v g.W3 ∧
          g.W3.ownsRow w.heap.size 68 1 g.v (j + 1) (vs ++ [g.y]) ∧ (g.W1.alloc (.cells #[g.y] 68)).grownBy g.W3 xt.ownBlock)
        (F := fun g => FL [3, 4, 5, 7] (wsT wr p g) 1 2) [1, 3, 4, 5, 7] 3 ⟨undef, wr, undef, wr⟩ 140 #[x] (fun g => FL.dep) (by kernel_rfl) (by kernel_rfl) (by kernel_rfl) (fun g g' φ W hφ hF => FL.agree (Ws := wsT wr p g) (Ws' := wsT wr p g') (k0 := 3) rfl rfl hφ hF) FL.start (by decide) ?_ ?_
      · intro φ W hφ hF
        obtain ⟨rfl, _⟩ := FL.step (i := 0) rfl (by decide) hF hφ (by intro p hp; omega) (by omega)
        refine (CB.out wr.drew hby.out).mono ?_
        rintro e W1 ⟨y, rfl, oy, b1⟩
        have b1' : Below wr.heap.size wr W1 := (Below.refl _ wr).drew.trans b1
        have hz := b1'.size
        obtain ⟨v, W3, r1, r2, r3⟩ := run_append_rd (P := Try.prog) (w := W1.alloc (.cells #[y] 68)) (ty := 84) (B := w.heap.size) Try.underlying84 info_bytes rfl (by omega) (own_below z2 (b1'.alloc hz _)) lit_rd (by intro u hu; simp at hu; subst hu; exact (OwnB.rd oy).oneCell) (by omega) (by omega) (by simp; omega)
        rw [htk] at r2
        have hF' := FL.agree (Ws := wsT wr p ⟨undef, wr, undef, wr⟩) (Ws' := wsT wr p ⟨y, W1, v, W3⟩) (k0 := 3) rfl rfl hφ hF
        exact ⟨⟨y, W1, v, W3⟩, ⟨oy, b1', r1, r2, r3⟩, rfl, (FL.step (i := 0) rfl (by decide) hF' hφ (by intro p hp; omega) (by omega)).2⟩
      · rintro ⟨y, W1, v, W3⟩ ⟨oy, b1, r1, r2, r3⟩
        dsimp only at oy b1 r1 r2 r3 ⊢
        obtain ⟨q1, q2, q3, oS, B, z1, z2, z4⟩ := HQ.out
        have MM := Lib.hid (copyT_mem (t := t) (a := w.heap.size) (b := w.heap.size + 1) (p := p) z1 z2 z4 oy b1 r2 r3 q1 q2 q3 oS B hB (by omega) (by omega) (by omega) (Nat.le_refl _))
        obtain ⟨yyA, yyn, yyc, rfl⟩ : ∃ A n c, y = .slice A n c := by obtain ⟨A, c, e⟩ := own_form' oy; exact ⟨A, _, c, e⟩
        obtain ⟨vA, vn, vc, rfl⟩ : ∃ A n c, v = .slice A n c := by obtain ⟨A, c, e⟩ := own_form' r2; exact ⟨A, _, c, e⟩
        have b1c := (q3.below b1).cell 0; have b2c := ((q3.below b1).alloc (.cells #[.slice yyA yyn yyc] 68)).cell 0
        have b0c := (q3.below (Below.refl _ wr).drew).cell 0
        haveI : Nonempty (FXN (FL [3, 4, 5, 7] (wsT wr p ⟨.slice yyA yyn yyc, W1, .slice vA vn vc, W3⟩) 1 2)) := ⟨⟨_, _, FL.start⟩⟩
        refine wpG_read FL.dep rfl (by decide) (by decide) ?_; go_big_quiet_step (fail); refine wpQuiet_nil ?_
        refine wpG_step FL.dep (by decide) rfl (by rfl) (v := xt) [] rfl (fun f W hF h0 _ => ?_) ?_
        · obtain ⟨⟨d, hd, hd2, rfl⟩, hF'⟩ := FL.read (by decide) hF h0
          refine ⟨_, ?_, hF'⟩
          have hc : (wsT wr p ⟨.slice yyA yyn yyc, W1, .slice vA vn vc, W3⟩ d).cell? ⟨p, 0, none⟩ = some xt := by
            rcases d with _ | _ | _ | d
            · exact b0c
            · exact b1c
            · exact b2c
            · omega
          simp [execOp, go_sem, hc]
        simp only [Act.put, List.setIfInBounds_toArray, List.set_cons_zero, List.set_cons_succ]
        refine wpG_read FL.dep rfl (by decide) (by decide) ?_; go_big_quiet_step (fail); refine wpQuiet_nil ?_
        refine wpG_call #[x] rfl (by simp [Act.eval]) (enter_CloneB x) ?_
        simp only [Act.put, List.setIfInBounds_toArray, List.set_cons_zero, List.set_cons_succ]
        refine wpG_step FL.dep (by decide) rfl (by rfl) (v := .slice (some ⟨W1.heap.size, 0, none⟩) 1 1) [3] (by kernel_rfl) (fun f W hF h0 h1 => ?_) ?_
        · obtain ⟨rfl, h2⟩ := FL.step (i := 1) rfl (by decide) hF h0 (FL.prev (p := 0) (q := 3) rfl (h1 3 (by simp))) (by omega)
          refine ⟨_, ?_, h2⟩
          simp [execOp, go_sem, wsT]
        simp only [Act.put, List.setIfInBounds_toArray, List.set_cons_zero, List.set_cons_succ]
        refine wpG_step FL.dep (by decide) rfl (by rfl) (v := .slice vA vn vc) [4, 1] (by kernel_rfl) (fun f W hF h0 h1 => ?_) ?_
        · obtain ⟨rfl, h2⟩ := FL.step (i := 2) rfl (by decide) hF h0 (FL.prev (p := 1) (q := 4) rfl (h1 4 (by simp))) (fun _ => h1 1 (by simp))
          exact ⟨_, by simp [execOp, resolve, invoke, builtin, Act.eval, wsT, r1], h2⟩
        simp only [Act.put, List.setIfInBounds_toArray, List.set_cons_zero, List.set_cons_succ]
        refine wpG_read FL.dep rfl (by decide) (by decide) ?_; go_big_quiet_step (fail); refine wpQuiet_nil ?_
        refine wpG_store FL.dep (by decide) rfl 84 (.tmp 25) (.tmp 24) rfl (by rfl) (p := .pointer (some ⟨p, 0, none⟩)) (u := .slice vA vn vc) (by rfl) (by rfl) [5] (by kernel_rfl) (fun f W hF h0 h1 => ?_) ?_
        · obtain ⟨rfl, h2⟩ := FL.step (i := 3) rfl (by decide) hF h0 (FL.prev (p := 2) (q := 5) rfl (h1 5 (by simp))) (by omega)
          refine ⟨_, ?_, h2⟩
          have hc := MM.out.1.1; have hf := MM.out.1.2
          simp [go_sem, wsT, hc, hf]
        refine wpG_nil ?_
        intro w' hw'
        obtain rfl := FL.done hw'
        have HM := Lib.hid (MM.out.2)
        clear this MM HQ q1 q2 q3 oS B z1 z2 z4 b1c b2c b0c hw' r1 r2 r3 oy b1 c3
        go_wp2
        go_roundg (NT - (j + 1))
        case measure => omega
        case rel =>
          refine ⟨j + 1, by omega, rfl, by go_num, Lib.hid ⟨_, ?_, HM.out.2⟩⟩
          have := HM.out.1
          rwa [List.take_add_one, HT.out.out]
    · obtain rfl : j = NT := by omega
      obtain ⟨xt, oT, q1, q2, q3, oS, B⟩ := hh.out
      rw [List.take_of_length_le (by have := HNT.out; omega)] at oT
      clear hh
      have hwa := q1.cell
      have HG := Lib.hid (And.intro q1 (And.intro q2 (And.intro q3 (And.intro oT oS)))); have HB := Lib.hid B
      clear q1 q2 q3 oT oS B
      go_wp2
      clear hwa
      go_loopg [30] NO (fun g i wr => ∃ k : Nat, k ≤ NO ∧ g = NO - k ∧ i = .int .i64 k ∧ Hid (∃ ot, OwnO wr w.heap.size ot (m.objs.take k) ∧ Bx wr w.heap.size 87 #[tv, ov, sv] ∧ Bx wr (w.heap.size + 1) 87 #[.slice none 0 0, .slice none 0 0, .slice none 0 0] ∧ Bx wr p 87 #[xt, ot, .slice yA yn yc] ∧ OwnT wr w.heap.size xt m.types ∧ OwnS wr w.heap.size 55 (.slice yA yn yc) m.slots ∧ Below w.heap.size w wr))
      case atStart => exact ⟨0, by omega, by omega, rfl, Lib.hid ⟨_, OwnO.nil _ _, HG.out.1, HG.out.2.1, HG.out.2.2.1, HG.out.2.2.2.1, HG.out.2.2.2.2, HB.out⟩⟩
      case round =>
        clear HG HB
        obtain ⟨k, hk, rfl, rfl, hh⟩ := hrel
        by_cases hltk : k < NO
        · obtain ⟨ot, oO, q1, q2, q3, oT, oS, B⟩ := hh.out
          obtain ⟨ob, oq, x, o, ix, m0, m1, ho, hx, hob⟩ := (H.out.o.below B).at_ (k := k) (by have := HNO.out; omega)
          have hol : o.fs.length ≤ 20 := S5.out o (List.mem_of_getElem? ho.out)
          have CW := Lib.hid (fun w h => CloneW_any x o.fs (by omega) w h)
          have hxx := hx.out
          have hlt0 : ot.ownBlock = none ∨ ot.ownBlock ≠ some wr.heap.size := by
            obtain ⟨vs, z1, z2, _⟩ := oO
            cases hob : ot.ownBlock with
            | none => exact .inl rfl
            | some g => have := (z2.lt g hob).2; exact .inr (by simp; omega)
          have hpl := q3.lt
          have htk : (m.objs.take k).length = k := by rw [List.length_take]; have := HNO.out; omega
          obtain ⟨xA, xn, xc, rfl⟩ : ∃ A n c, x = .slice A n c := by obtain ⟨A, c, e, _⟩ := hxx; exact ⟨A, _, c, e⟩
          clear hh hx
          go_upto_region 10 with (fail)
          refine wp_gen (fun Wv => Bx Wv (wr.heap.size) (140) (#[.int .i64 o.ty, .slice xA xn xc]) ∧ Below wr.heap.size wr Wv) ⟨((Bx.at_ (by simp))), ((Below.refl _ wr).alloc (by simp <;> omega) _)⟩ ?_
          rintro wa1 ⟨g4, b⟩
          replace q1 := q1.below b; replace q2 := q2.below b; replace q3 := q3.below b; replace oT := oT.below b; replace oS := oS.below b; replace oO := oO.below b; replace hxx := hxx.below b; replace B := B.trans (b.mono B.size); clear b
          have c_g4 := g4.cell; have f_g4 := g4.free; have a_g4 := fun o => (g4.alloc o).cell; have d_g4 := fun o o2 => ((g4.alloc o).alloc o2).cell; have e_g4 := fun o => (g4.alloc o).free
          clear m0 m1
          obtain ⟨vs, z1, z2, z4, z5⟩ := oO
          have hB := B.size
          have HT := Lib.hid ho; have HQ := Lib.hid (And.intro q1 (And.intro q2 (And.intro q3 (And.intro oT (And.intro oS (And.intro B (And.intro z1 (And.intro z2 (And.intro z4 z5)))))))))
          clear c_g4 f_g4 a_g4 d_g4 e_g4
          refine wp_region_G (val := GCopy.y) (V := fun g => OwnW g.W1 wa1.heap.size 25 g.y o.fs ∧ Below wa1.heap.size wa1 g.W1 ∧ (Builtin.append_ #[85, 85] 85 #[ot, .slice (some ⟨g.W1.heap.size, 0, none⟩) 1 1]).run Try.prog (g.W1.alloc (.cells #[i64 o.ty, g.y] 140)) = .ok g.v g.W3 ∧
              g.W3.ownsRow w.heap.size 140 2 g.v (k + 1) (obC (m.objs.take k) vs ++ [i64 o.ty, g.y]) ∧ (g.W1.alloc (.cells #[i64 o.ty, g.y] 140)).grownBy g.W3 ot.ownBlock)
            (F := fun g => FL [6, 7, 8, 9, 11] (wsO wa1 p o.ty g) 1 3) [1, 6, 7, 8, 9, 11] 6 ⟨undef, wr, undef, wr⟩ 82 #[.slice xA xn xc] (fun g => FL.dep) (by kernel_rfl) (by kernel_rfl) (by kernel_rfl) (fun g g' φ W hφ hF => FL.agree (Ws := wsO wa1 p o.ty g) (Ws' := wsO wa1 p o.ty g') (k0 := 6) rfl rfl hφ hF) FL.start (by decide) ?_ ?_
          · intro φ W hφ hF
            obtain ⟨rfl, _⟩ := FL.step (i := 0) rfl (by decide) hF hφ (by intro p hp; omega) (by omega)
            refine (CW.out wa1.drew hxx).mono ?_
            rintro e W1 ⟨y, rfl, oy, b1⟩
            have b1' : Below wa1.heap.size wa1 W1 := (Below.refl _ wa1).drew.trans b1
            have hz := b1'.size
            obtain ⟨v, W3, r1, r2, r3⟩ := run_append_rd (P := Try.prog) (w := W1.alloc (.cells #[i64 o.ty, y] 140)) (ty := 85) (B := w.heap.size) Try.underlying85 info_obj rfl (by omega) (own_below z2 (b1'.alloc hz _)) lit_obj (one_obj (OwnW.rd oy).oneCell) (by omega) (by omega) (by simp; omega)
            rw [htk] at r2
            have hF' := FL.agree (Ws := wsO wa1 p o.ty ⟨undef, wr, undef, wr⟩) (Ws' := wsO wa1 p o.ty ⟨y, W1, v, W3⟩) (k0 := 6) rfl rfl hφ hF
            exact ⟨⟨y, W1, v, W3⟩, ⟨oy, b1', r1, r2, r3⟩, rfl, (FL.step (i := 0) rfl (by decide) hF' hφ (by intro p hp; omega) (by omega)).2⟩
          · rintro ⟨y, W1, v, W3⟩ ⟨oy, b1, r1, r2, r3⟩
            dsimp only at oy b1 r1 r2 r3 ⊢
            have MM := Lib.hid (copyO_mem (o := o) (a := w.heap.size) (b := w.heap.size + 1) (p := p) z1 z2 z4 z5 oy b1 r2 r3 q1 q2 q3 oT oS B hB (by omega) (by omega) (by omega) g4 hlt0 (by omega))
            obtain ⟨yyA, yyn, yyc, rfl⟩ : ∃ A n c, y = .slice A n c := by obtain ⟨A, c, e⟩ := own_form' oy; exact ⟨A, _, c, e⟩
            obtain ⟨vA, vn, vc, rfl⟩ : ∃ A n c, v = .slice A n c := by obtain ⟨A, c, e⟩ := own_form' r2; exact ⟨A, _, c, e⟩
            have b1c := (q3.below b1).cell 1; have b2c := ((q3.below b1).alloc (.cells #[i64 o.ty, .slice yyA yyn yyc] 140)).cell 1
            have b0c := (q3.below (Below.refl _ wa1).drew).cell 1
            have c4 := fun x : FXN (FL [6, 7, 8, 9, 11] (wsO wa1 p o.ty ⟨.slice yyA yyn yyc, W1, .slice vA vn vc, W3⟩) 1 3) => (FL.all (p := fun W => Bx W wr.heap.size 140 #[.int .i64 o.ty, .slice xA xn xc]) (by
              intro d hd
              rcases d with _ | _ | _ | _ | _ | d
              · exact g4.below (Below.refl _ wa1).drew
              · exact g4.below b1
              · exact g4.below b1
              · exact (g4.below b1).alloc _
              · exact MM.out.2.2.2.2.2.2.2.2.1
              · exact MM.out.2.2.2.2.2.2.2.2.2) x).cell
            haveI : Nonempty (FXN (FL [6, 7, 8, 9, 11] (wsO wa1 p o.ty ⟨.slice yyA yyn yyc, W1, .slice vA vn vc, W3⟩) 1 3)) := ⟨⟨_, _, FL.start⟩⟩
            refine wpG_read FL.dep rfl (by decide) (by decide) ?_; go_big_quiet_step (fail); refine wpQuiet_nil ?_
            refine wpG_step FL.dep (by decide) rfl (by rfl) (v := ot) [] rfl (fun f W hF h0 _ => ?_) ?_
            · obtain ⟨⟨d, hd, hd2, rfl⟩, hF'⟩ := FL.read (by decide) hF h0
              refine ⟨_, ?_, hF'⟩
              have hc : (wsO wa1 p o.ty ⟨.slice yyA yyn yyc, W1, .slice vA vn vc, W3⟩ d).cell? ⟨p, 1, none⟩ = some ot := by
                rcases d with _ | _ | _ | _ | d
                · exact b0c
                · exact b1c
                · exact b1c
                · exact b2c
                · omega
              simp [execOp, go_sem, hc]
            simp only [Act.put, List.setIfInBounds_toArray, List.set_cons_zero, List.set_cons_succ]
            iterate 4 (refine wpG_read FL.dep rfl (by decide) (by decide) ?_; go_big_quiet_step (fail); refine wpQuiet_nil ?_)
            refine wpG_call #[.slice xA xn xc] rfl (by simp [Act.eval]) (enter_CloneW _) ?_
            simp only [Act.put, List.setIfInBounds_toArray, List.set_cons_zero, List.set_cons_succ]
            refine wpG_step FL.dep (by decide) rfl (by rfl) (v := .agg #[i64 o.ty, .slice yyA yyn yyc]) [6] (by kernel_rfl) (fun f W hF h0 h1 => ?_) ?_
            · obtain ⟨rfl, h2⟩ := FL.step (i := 1) rfl (by decide) hF h0 (FL.prev (p := 0) (q := 6) rfl (h1 6 (by simp))) (by omega)
              refine ⟨_, ?_, h2⟩
              simp [execOp, go_sem, wsO, i64]
            simp only [Act.put, List.setIfInBounds_toArray, List.set_cons_zero, List.set_cons_succ]
            refine wpG_step FL.dep (by decide) rfl (by rfl) (v := .slice (some ⟨W1.heap.size, 0, none⟩) 1 1) [7] (by kernel_rfl) (fun f W hF h0 h1 => ?_) ?_
            · obtain ⟨rfl, h2⟩ := FL.step (i := 2) rfl (by decide) hF h0 (FL.prev (p := 1) (q := 7) rfl (h1 7 (by simp))) (by omega)
              refine ⟨_, ?_, h2⟩
              simp [execOp, go_sem, wsO, i64]
            simp only [Act.put, List.setIfInBounds_toArray, List.set_cons_zero, List.set_cons_succ]
            refine wpG_step FL.dep (by decide) rfl (by rfl) (v := .slice vA vn vc) [8, 1] (by kernel_rfl) (fun f W hF h0 h1 => ?_) ?_
            · obtain ⟨rfl, h2⟩ := FL.step (i := 3) rfl (by decide) hF h0 (FL.prev (p := 2) (q := 8) rfl (h1 8 (by simp))) (fun _ => h1 1 (by simp))
              exact ⟨_, by simp [execOp, resolve, invoke, builtin, Act.eval, wsO, r1], h2⟩
            simp only [Act.put, List.setIfInBounds_toArray, List.set_cons_zero, List.set_cons_succ]
            refine wpG_read FL.dep rfl (by decide) (by decide) ?_; go_big_quiet_step (fail); refine wpQuiet_nil ?_
            refine wpG_store FL.dep (by decide) rfl 85 (.tmp 44) (.tmp 43) rfl (by rfl) (p := .pointer (some ⟨p, 1, none⟩)) (u := .slice vA vn vc) (by rfl) (by rfl) [9] (by kernel_rfl) (fun f W hF h0 h1 => ?_) ?_
            · obtain ⟨rfl, h2⟩ := FL.step (i := 4) rfl (by decide) hF h0 (FL.prev (p := 3) (q := 9) rfl (h1 9 (by simp))) (by omega)
              refine ⟨_, ?_, h2⟩
              have hc := MM.out.1.1; have hf := MM.out.1.2
              simp [go_sem, wsO, hc, hf]
            refine wpG_nil ?_
            intro w' hw'
            obtain rfl := FL.done hw'
            have HM := Lib.hid (MM.out.2)
            clear this MM HQ q1 q2 q3 oT oS B z1 z2 z4 z5 b1c b2c b0c hw' r1 r2 r3 oy b1 c4 g4 hxx
            go_wp2
            go_roundg (NO - (k + 1))
            case measure => omega
            case rel =>
              obtain ⟨k1, k2, k3, k4, k5, k6, k7, _⟩ := HM.out
              refine ⟨k + 1, by omega, rfl, by go_num, Lib.hid ⟨_, ?_, k2, k3, k4, k5, k6, k7⟩⟩
              rwa [List.take_add_one, HT.out.out]
        · obtain rfl : k = NO := by omega
          obtain ⟨ot, oO, q1, q2, q3, oT, oS, B⟩ := hh.out
          rw [List.take_of_length_le (by have := HNO.out; omega)] at oO
          obtain ⟨oA, on, oc, rfl⟩ : ∃ A n c, ot = .slice A n c := by obtain ⟨vs, _, z2, _⟩ := oO; obtain ⟨A, c, e⟩ := own_form' z2; exact ⟨A, _, c, e⟩
          obtain ⟨xA, xn, xc, rfl⟩ : ∃ A n c, xt = .slice A n c := by obtain ⟨vs, _, z2, _⟩ := oT; obtain ⟨A, c, e⟩ := own_form' z2; exact ⟨A, _, c, e⟩
          have c2 := q2.cell; have c3 := q3.cell; have f2 := q2.free
          have OO := Lib.hid (And.intro oT (And.intro oO oS)); have HB := Lib.hid B
          clear hh q1 oT oO oS B
          go_wp2
          refine bodyPost_ret (v := .agg #[.slice xA xn xc, .slice oA on oc, .slice yA yn yc]) (by simp [results, Try.results121, go_sem, c2, c3, f2]) rfl ?_
          refine ⟨_, _, _, rfl, OwnM.set3 ⟨OO.out.1, OO.out.2.1, OO.out.2.2⟩ q2, ?_⟩
          have B := HB.out
          exact ((B.setCell (p := ⟨w.heap.size + 1, 0, none⟩) (by simp) _).setCell (p := ⟨w.heap.size + 1, 1, none⟩) (by simp) _).setCell (p := ⟨w.heap.size + 1, 2, none⟩) (by simp) _
end Go.Proofs.Ytiiilaojllmmiaa
namespace Go.Proofs.Ytiiilaojllmmiaa
open Go.RowKit L02 L13 L18 L20
end Go.Proofs.Ytiiilaojllmmiaa
namespace Go.Proofs.Ytiiilaojllmmiaa
open Go.RowKit L02 L13 L18 L20
end Go.Proofs.Ytiiilaojllmmiaa
namespace Go.Proofs.Ytiiilaojllmmiaa
open Go.RowKit L02 L13 L18 L20
theorem mo_ne {a b : Mo} (h : ¬ (a.types = b.types ∧ a.objs = b.objs ∧ a.slots = b.slots)) : ¬ a = b := fun e => h (by rw [e]; exact ⟨rfl, rfl, rfl⟩)
theorem mo_eq {a b : Mo} (h1 : a.types = b.types) (h2 : a.objs = b.objs) (h3 : a.slots = b.slots) : a = b := by cases a; cases b; simp_all
theorem ob_eq {a b : Ob} (h1 : a.ty = b.ty) (h2 : a.fs = b.fs) : a = b := by cases a; cases b; simp_all
set_option maxRecDepth 100000 in
set_option maxHeartbeats 4000000 in
theorem Same20_any (ta oa sa tb ob sb : Value) (a b : Mo) (r : Bool) (hr : r = decide (a = b)) (w : World) (ha : Mod w ta oa sa a) (hb : Mod w tb ob sb b) :
    Calls Try.prog 48 #[.agg #[ta, oa, sa], .agg #[tb, ob, sb]] w fun e w' => e = .returned (.bool r) ∧ Below w.heap.size w w' := by
  have B : Below w.heap.size w w := Below.refl _ _
  have lo := ha.o.len; have lo2 := hb.o.len
  have lo' := ha.o.len_le; have lo2' := hb.o.len_le
  obtain ⟨z1, hz1⟩ : ∃ z, z = decide (a.types = b.types) := ⟨_, rfl⟩
  obtain ⟨z3, hz3⟩ : ∃ z, z = sameS a.slots b.slots := ⟨_, rfl⟩
  have TT := Lib.hid (fun w h1 h2 => SameT_any ta tb a.types b.types z1 hz1 w h1 h2)
  have ST := Lib.hid (fun w h1 h2 => SameS_any sa sb a.slots b.slots z3 hz3 w h1 h2)
  obtain ⟨NA, hNA⟩ : ∃ N, N = a.objs.length := ⟨_, rfl⟩
  obtain ⟨NB, hNB⟩ : ∃ N, N = b.objs.length := ⟨_, rfl⟩
  rw [← hNA] at lo lo'; rw [← hNB] at lo2 lo2'
  have HA := Lib.hid ha; have HB := Lib.hid hb; have HNA := Lib.hid hNA; have HNB := Lib.hid hNB; have HR := Lib.hid hr; have HZ1 := Lib.hid hz1; have HZ3 := Lib.hid hz3
  have hno : ¬ (a.types = b.types ∧ a.objs = b.objs ∧ a.slots = b.slots) → r = false := fun h => by rw [hr]; exact decide_eq_false (mo_ne h)
  have HNO := Lib.hid hno
  clear ha hb hNA hNB hr hz1 hz3 hno
  go_enter Try.func48, Try.ntmps48
  go_upto_region 1 with (fail)
  refine wp_gen (fun Wv => Bx Wv (w.heap.size) (87) (#[ta, oa, sa]) ∧ Bx Wv (w.heap.size + 1) (87) (#[tb, ob, sb]) ∧ Below w.heap.size w Wv) ⟨(((Bx.at_ (by simp)).alloc _)), ((Bx.at_ (by simp))), (((Below.refl _ w).alloc (by simp <;> omega) _).alloc (by simp <;> omega) _)⟩ ?_
  rintro wa1 ⟨g1, g2, b⟩
  replace B := B.trans (b.mono B.size); clear b
  have c_g1 := g1.cell; have f_g1 := g1.free; have a_g1 := fun o => (g1.alloc o).cell; have d_g1 := fun o o2 => ((g1.alloc o).alloc o2).cell; have e_g1 := fun o => (g1.alloc o).free
  have c_g2 := g2.cell; have f_g2 := g2.free; have a_g2 := fun o => (g2.alloc o).cell; have d_g2 := fun o o2 => ((g2.alloc o).alloc o2).cell; have e_g2 := fun o => (g2.alloc o).free
  go_wp2_with fail
  refine (TT.out _ (HA.out.t.below B) (HB.out.t.below B)).mono ?_
  rintro e w2 ⟨rfl, b2⟩
  replace g1 := g1.below b2; replace g2 := g2.below b2; replace B := B.trans (b2.mono B.size)
  clear b2 c_g1 c_g2 f_g1 f_g2 a_g1 a_g2 d_g1 d_g2 e_g1 e_g2
  have c_g1 := g1.cell; have c_g2 := g2.cell
  cases z1
  · have hrf := HNO.out (fun h => by have := HZ1.out; rw [eq_comm, decide_eq_false_iff_not] at this; exact this h.1)
    subst hrf
    go_wp2
    go_ret
    exact ⟨rfl, B⟩
  · by_cases hl : NA = NB
    · have hl1 : ((NA : Int) != (NB : Int)) = false := by rw [bne_eq_false_iff_eq]; omega
      have HL := Lib.hid hl; clear hl
      go_wp2_with fail
      refine (ST.out _ (HA.out.s.below B) (HB.out.s.below B)).mono ?_
      rintro e w3 ⟨rfl, b2⟩
      replace g1 := g1.below b2; replace g2 := g2.below b2; replace B := B.trans (b2.mono B.size)
      clear b2 c_g1 c_g2
      cases z3
      · have hrf := HNO.out (fun h => by have := HZ3.out; rw [sameS, eq_comm, decide_eq_false_iff_not] at this; exact this h.2.2)
        subst hrf
        go_wp2
        go_ret
        exact ⟨rfl, B⟩
      · have HG := Lib.hid (And.intro g1 (And.intro g2 B))
        clear g1 g2 B
        go_wp2
        go_loopg [5] NA (fun g i wr => ∃ k : Nat, k ≤ NA ∧ g = NA - k ∧ i = .int .i64 k ∧ Hid (a.objs.take k = b.objs.take k ∧ Bx wr w.heap.size 87 #[ta, oa, sa] ∧ Bx wr (w.heap.size + 1) 87 #[tb, ob, sb] ∧ Below w.heap.size w wr))
        case atStart => exact ⟨0, by omega, by omega, rfl, Lib.hid ⟨by simp, HG.out⟩⟩
        case round =>
          clear HG
          obtain ⟨k, hk, rfl, rfl, hh⟩ := hrel
          obtain ⟨heq, g1, g2, B⟩ := hh.out
          have HEQ := Lib.hid heq
          clear hh heq
          have c_g1 := g1.cell; have c_g2 := g2.cell
          by_cases hlt : k < NA
          · obtain ⟨bb, bq, x, o, ix, m0, m1, ho, hx, hxb⟩ := (HA.out.o.below B).at_ (k := k) (by have := HNA.out; omega)
            obtain ⟨cb, cq, y, p, iy, m2, m3, hp, hy, hyb⟩ := (HB.out.o.below B).at_ (k := k) (by have := HNB.out; have := HL.out; omega)
            have hxx := hx.out; have hyy := hy.out
            by_cases hty : o.ty = p.ty
            · have ht : (o.ty != p.ty) = false := by rw [bne_eq_false_iff_eq]; exact hty
              obtain ⟨q, hq⟩ : ∃ q, q = L02.same o.fs p.fs := ⟨_, rfl⟩
              have SW := Lib.hid (fun w h1 h2 => Same_r x y o.fs p.fs q hq w h1 h2)
              have HQ := Lib.hid hq; have HTY := Lib.hid hty; clear hq hty
              have HXX := Lib.hid hxx; have HYY := Lib.hid hyy
              go_upto_region 6 with (fail)
              have HC := Lib.hid (fun z : Fut wr => And.intro (HXX.out.below z.h) (HYY.out.below z.h))
              clear hxx hyy
              refine wp_region_calm (by kernel_rfl) (by kernel_rfl) ?_
              try clear c_g1 f_g1 a_g1 d_g1 e_g1
              have c_g1 := fun x : Fut _ => (g1.below x.h).cell
              try clear c_g2 f_g2 a_g2 d_g2 e_g2
              have c_g2 := fun x : Fut _ => (g2.below x.h).cell
              have c_m0 := fun x : Fut _ => cell_later x.h m0
              have c_m1 := fun x : Fut _ => cell_later x.h m1
              have c_m2 := fun x : Fut _ => cell_later x.h m2
              have c_m3 := fun x : Fut _ => cell_later x.h m3
              repeat (go_big_quiet_step (exact Fut.call (SW.out _ (HC.out _).1 (HC.out _).2)))
              refine wpQuiet_nil ?_
              intro _ hw'
              obtain ⟨xq, hw''⟩ := hw'
              subst hw''
              clear c_g1; replace g1 := g1.below xq.h; have c_g1 := g1.cell; have f_g1 := g1.free; have a_g1 := fun o => (g1.alloc o).cell; have d_g1 := fun o o2 => ((g1.alloc o).alloc o2).cell; have e_g1 := fun o => (g1.alloc o).free
              clear c_g2; replace g2 := g2.below xq.h; have c_g2 := g2.cell; have f_g2 := g2.free; have a_g2 := fun o => (g2.alloc o).cell; have d_g2 := fun o o2 => ((g2.alloc o).alloc o2).cell; have e_g2 := fun o => (g2.alloc o).free
              clear c_m0; replace m0 := cell_later xq.h m0
              clear c_m1; replace m1 := cell_later xq.h m1
              clear c_m2; replace m2 := cell_later xq.h m2
              clear c_m3; replace m3 := cell_later xq.h m3
              replace B := B.trans (xq.h.mono B.size)
              cases q
              · have hrf := HNO.out (fun h => by
                  have h1 := ho.out; have h2 := hp.out
                  rw [h.2.1, h2] at h1; injection h1 with h1
                  have := HQ.out; rw [h1] at this
                  simp [L02.same] at this)
                subst hrf
                go_wp2
                go_ret
                exact ⟨rfl, B⟩
              · have hs : o.fs = p.fs := by have := HQ.out; simpa [L02.same, eq_comm] using this
                have HS := Lib.hid (ob_eq HTY.out hs); clear hs
                have HH := Lib.hid (And.intro g1 (And.intro g2 B))
                clear g1 g2 B c_g1 c_g2 f_g1 f_g2 a_g1 a_g2 d_g1 d_g2 e_g1 e_g2 m0 m1 m2 m3
                go_wp2
                go_roundg (NA - (k + 1))
                case measure => omega
                case rel =>
                  refine ⟨k + 1, by omega, rfl, by go_num, Lib.hid ⟨?_, HH.out⟩⟩
                  rw [List.take_add_one, List.take_add_one, HEQ.out, ho.out, hp.out, HS.out]
            · have ht : (o.ty != p.ty) = true := by rw [bne_iff_ne]; exact hty
              have hrf := HNO.out (fun h => by
                have h1 := ho.out; have h2 := hp.out
                rw [h.2.1, h2] at h1; injection h1 with h1
                exact hty (by rw [h1]))
              subst hrf
              clear hxx hyy hty
              go_upto_region 6 with (fail)
              refine wp_region_calm (by kernel_rfl) (by kernel_rfl) ?_
              try clear c_g1 f_g1 a_g1 d_g1 e_g1
              have c_g1 := fun x : Fut _ => (g1.below x.h).cell
              try clear c_g2 f_g2 a_g2 d_g2 e_g2
              have c_g2 := fun x : Fut _ => (g2.below x.h).cell
              have c_m0 := fun x : Fut _ => cell_later x.h m0
              have c_m1 := fun x : Fut _ => cell_later x.h m1
              have c_m2 := fun x : Fut _ => cell_later x.h m2
              have c_m3 := fun x : Fut _ => cell_later x.h m3
              repeat (go_big_quiet_step (fail))
              refine wpQuiet_nil ?_
              intro _ hw'
              obtain ⟨xq, hw''⟩ := hw'
              subst hw''
              clear c_g1; replace g1 := g1.below xq.h; have c_g1 := g1.cell; have f_g1 := g1.free; have a_g1 := fun o => (g1.alloc o).cell; have d_g1 := fun o o2 => ((g1.alloc o).alloc o2).cell; have e_g1 := fun o => (g1.alloc o).free
              clear c_g2; replace g2 := g2.below xq.h; have c_g2 := g2.cell; have f_g2 := g2.free; have a_g2 := fun o => (g2.alloc o).cell; have d_g2 := fun o o2 => ((g2.alloc o).alloc o2).cell; have e_g2 := fun o => (g2.alloc o).free
              clear c_m0; replace m0 := cell_later xq.h m0
              clear c_m1; replace m1 := cell_later xq.h m1
              clear c_m2; replace m2 := cell_later xq.h m2
              clear c_m3; replace m3 := cell_later xq.h m3
              replace B := B.trans (xq.h.mono B.size)
              go_wp2
              go_ret
              exact ⟨rfl, B⟩
          · obtain rfl : k = NA := by omega
            have hrt : r = true := by
              rw [HR.out, decide_eq_true_iff]
              have h1 := HEQ.out
              rw [List.take_of_length_le (by have := HNA.out; omega), List.take_of_length_le (by have := HNB.out; have := HL.out; omega)] at h1
              have h2 := HZ1.out; have h3 := HZ3.out
              rw [eq_comm, decide_eq_true_iff] at h2
              rw [sameS, eq_comm, decide_eq_true_iff] at h3
              exact mo_eq h2 h1 h3
            subst hrt
            go_wp2
            go_ret
            exact ⟨rfl, B⟩
    · have hl1 : ((NA : Int) != (NB : Int)) = true := by rw [bne_iff_ne]; omega
      have hrf := HNO.out (fun h => hl (by rw [HNA.out, HNB.out, h.2.1]))
      subst hrf
      clear hl
      go_wp2
      go_ret
      exact ⟨rfl, B⟩
end Go.Proofs.Ytiiilaojllmmiaa
namespace Go.Proofs.Ytiiilaojllmmiaa
open Go Go.RowKit
section
variable {P : Program} {ops : Array Oper} {md : Region.Mode}
/-- a number of nn yields its value, whatever its world; the others as they do -/
def YieldsM (P : Program) (md : Region.Mode) (ops : Array Oper) (C : Array Bool → World → Prop) (nn : Nat → Bool) (x : Nat → Value) (i : Nat) (o : Oper) (v : Value) (a : Act) : Prop :=
  (nn i = true ∧ v = x i ∧ Region.wanted o (yielded ops a.tmps) = true) ∨ (nn i = false ∧ YieldsV P md ops C i o v a)
theorem YieldsM.of_same {C : Array Bool → World → Prop} {nn : Nat → Bool} {x : Nat → Value} {i : Nat} {o : Oper} {v : Value} {a a' : Act} (hy : YieldsM P md ops C nn x i o v a) (he : execOp a'.eval o = execOp a.eval o)
    (hw : Region.wanted o (yielded ops a'.tmps) = Region.wanted o (yielded ops a.tmps)) : YieldsM P md ops C nn x i o v a' := by
  rcases hy with ⟨h1, h2, h3⟩ | ⟨h1, h2⟩
  · exact .inl ⟨h1, h2, by rw [hw]; exact h3⟩
  · exact .inr ⟨h1, h2.of_same he hw⟩
/-- T a: what the operation k0 does at the act a -/
def qOpM (P : Program) (md : Region.Mode) (ops : Array Oper) (C : Array Bool → World → Prop) (nn : Nat → Bool) (x : Nat → Value) (T : Nat → Sem Next → Prop) (i : Nat) (K : Act → Prop) (a : Act) : Prop :=
  match ops[i]? with
  | none => False
  | some o => ∃ v, (YieldsM P md ops C nn x i o v a ∧ (nn i = true → T i (execOp a.eval o))) ∧ K (a.put o.dst v)
variable {C : Array Bool → World → Prop} {nn : Nat → Bool} {x : Nat → Value} {T : Nat → Sem Next → Prop}
theorem qOpM_mono {i : Nat} {a : Act} {K K' : Act → Prop} (h : ∀ a, K a → K' a) (hh : qOpM P md ops C nn x T i K a) : qOpM P md ops C nn x T i K' a := by
  unfold qOpM at *
  split
  · rename_i ho; simp only [ho] at hh
  · rename_i o ho
    simp only [ho] at hh
    obtain ⟨v, h1, h2⟩ := hh
    exact ⟨v, h1, h _ h2⟩
theorem qOpM_put {i j : Nat} {oi oj : Oper} {v : Value} (hj : ops[j]? = some oj) (hap : oi.apart ops oj = true)
    (hsi : ∀ cs b, oi.op ≠ .select cs b) (hsj : ∀ cs b, oj.op ≠ .select cs b) {K : Act → Prop} {a : Act}
    (hy : YieldsM P md ops C nn x i oi v a ∧ (nn i = true → T i (execOp a.eval oi))) (h : qOpM P md ops C nn x T j K (a.put oi.dst v)) :
    qOpM P md ops C nn x T j (fun a' => (YieldsM P md ops C nn x i oi v a' ∧ (nn i = true → T i (execOp a'.eval oi))) ∧ K (a'.put oi.dst v)) a := by
  obtain ⟨h1, h2, h3⟩ := Oper.apart_spec hap
  unfold qOpM at *
  simp only [hj] at *
  obtain ⟨u, ⟨hu, hu2⟩, hn⟩ := h
  refine ⟨u, ⟨hu.of_same ?_ ?_, fun e => ?_⟩, ⟨hy.1.of_same ?_ ?_, fun e => ?_⟩, ?_⟩
  · exact (execOp_put oj hsj a oi.dst v h1).symm
  · exact (wanted_put oj a oi.dst v h1).symm
  · have := hu2 e; rwa [execOp_put oj hsj a oi.dst v h1] at this
  · exact execOp_put oi hsi a oj.dst u h3
  · exact wanted_put oi a oj.dst u h3
  · have := hy.2 e; rwa [execOp_put oi hsi a oj.dst u h3]
  · rw [← Act.put_comm a v u h2]; exact hn
/-- the walk in the order of the text, number k first -/
def wpM (P : Program) (md : Region.Mode) (ops : Array Oper) (C : Array Bool → World → Prop) (nn : Nat → Bool) (x : Nat → Value) (T : Nat → Sem Next → Prop) (Q : Act → Prop) : List Oper → Nat → Act → Prop
  | [], _, a => Q a
  | o :: rest, k, a => ∃ v, (YieldsM P md ops C nn x k o v a ∧ (nn k = true → T k (execOp a.eval o))) ∧ wpM P md ops C nn x T Q rest (k + 1) (a.put o.dst v)
def uponN (P : Program) (Post : Value → World → Prop) : Result Next → Prop
  | .ok (.value u) w' => Post u w'
  | .ok (.enter f args) w' => Calls P f args w' (fun e w'' => ∃ u, e = .returned u ∧ Post u w'')
  | _ => False
theorem uponN_mono {P : Program} {Post Post' : Value → World → Prop} {r : Result Next} (h : ∀ v w, Post v w → Post' v w) (hr : uponN P Post r) : uponN P Post' r := by
  cases r with
  | ok n w' =>
    cases n <;> simp only [uponN] at hr ⊢
    case value u => exact h _ _ hr
    case enter f args => exact hr.mono fun e w'' ⟨u, he, hp⟩ => ⟨u, he, h _ _ hp⟩
  | halt y w' => simp only [uponN] at hr
end
section
variable {P : Program} {ops : Array Oper} {rest : List Oper} {o : Oper} {a : Act} {Q : Act → Prop} {F : (Nat → Bool) → World → Prop} {js : List Nat} {k : Nat} {nn : Nat → Bool} {md : Region.Mode} {x : Nat → Value} {T : Nat → Sem Next → Prop}
end
end Go.Proofs.Ytiiilaojllmmiaa
