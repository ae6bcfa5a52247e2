/- Contracts of the functions that the laws 'N' reach, part 6. No condition. -/
import Derived.Test.YteejianjjpdimaaMNe
set_option linter.unusedVariables false
set_option linter.unusedSimpArgs false
namespace Go.Proofs.Yteejianjjpdimaa
open Go.RowKit L02 L13 L18 L20
structure GCopy where
  y : Value
  W1 : World
  v : Value
  W3 : World
theorem enter_CloneB (x : Value) (W : World) : (callFunc 44 (#[] ++ #[x] ++ #[])).run Try.prog W = .ok (.enter 44 #[x]) W := by
  simp [go_sem]
/-- the worlds of a round that copies one type -/
def wsT (w : World) (p : Nat) (g : GCopy) : Nat → World
  | 0 => w.drew
  | 1 => g.W1
  | 2 => g.W1.alloc (.cells #[g.y] 41)
  | 3 => g.W3
  | _ => g.W3.setCell ⟨p, 0, none⟩ g.v
theorem enter_CloneW (x : Value) (W : World) : (callFunc 45 (#[] ++ #[x] ++ #[])).run Try.prog W = .ok (.enter 45 #[x]) W := by
  simp [go_sem]
/-- the worlds of a round that copies one object -/
def wsO (w : World) (p : Nat) (ty : Int) (g : GCopy) : Nat → World
  | 0 => w.drew
  | 1 => g.W1
  | 2 => g.W1
  | 3 => g.W1.alloc (.cells #[i64 ty, g.y] 45)
  | 4 => g.W3
  | _ => g.W3.setCell ⟨p, 1, none⟩ g.v
set_option maxRecDepth 100000 in
set_option maxHeartbeats 4000000 in
theorem copied_any (tv ov sv : Value) (m : Mo) (hsm : Small m) (w : World) (h : Mod w tv ov sv m) :
    Calls Try.prog 24 #[.agg #[tv, ov, sv]] w fun e w' => ∃ tv' ov' sv', e = .returned (.agg #[tv', ov', sv']) ∧ OwnM w' w.heap.size 48 tv' ov' sv' m ∧ Below w.heap.size w w' := by
  have B : Below w.heap.size w w := Below.refl _ _
  have lt := h.t.len; have lo := h.o.len
  obtain ⟨NT, hNT⟩ : ∃ N, N = m.types.length := ⟨_, rfl⟩
  obtain ⟨NO, hNO⟩ : ∃ N, N = m.objs.length := ⟨_, rfl⟩
  rw [← hNT] at lt; rw [← hNO] at lo
  obtain ⟨s1, s2, s3, s4, s5⟩ := hsm
  have CS := Lib.hid (fun w h => CloneS_any sv m.slots (by omega) w h)
  have hNT20 : NT ≤ 20 := by omega
  have hNO962 : NO ≤ 962 := by omega
  have H := Lib.hid h; have HNT := Lib.hid hNT; have HNO := Lib.hid hNO; have S4 := Lib.hid s4; have S5 := Lib.hid s5
  clear h hNT hNO s4 s5 s1 s2 s3
  go_enter Try.func24, Try.ntmps24
  go_upto_region 1 with (fail)
  refine wp_gen (fun Wv => Bx Wv (w.heap.size) (26) (#[tv, ov, sv]) ∧ Bx Wv (w.heap.size + 1) (26) (#[.slice none 0 0, .slice none 0 0, .slice none 0 0]) ∧ Below w.heap.size w Wv) ⟨(((Bx.at_ (by simp)).alloc _)), ((Bx.at_ (by simp))), (((Below.refl _ w).alloc (by simp <;> omega) _).alloc (by simp <;> omega) _)⟩ ?_
  rintro wa1 ⟨g1, g2, b⟩
  replace B := B.trans (b.mono B.size); clear b
  have c_g1 := g1.cell; have f_g1 := g1.free; have a_g1 := fun o => (g1.alloc o).cell; have d_g1 := fun o o2 => ((g1.alloc o).alloc o2).cell; have e_g1 := fun o => (g1.alloc o).free
  have c_g2 := g2.cell; have f_g2 := g2.free; have a_g2 := fun o => (g2.alloc o).cell; have d_g2 := fun o o2 => ((g2.alloc o).alloc o2).cell; have e_g2 := fun o => (g2.alloc o).free
  have hz1 := B.size
  go_wp2_with fail
  refine (CS.out _ (H.out.s.below B)).mono ?_
  rintro e wa2 ⟨ys, rfl, oS, b⟩
  try clear c_g1 f_g1 a_g1 d_g1 e_g1
  replace g1 := g1.below b; have c_g1 := g1.cell; have f_g1 := g1.free; have a_g1 := fun o => (g1.alloc o).cell; have d_g1 := fun o o2 => ((g1.alloc o).alloc o2).cell; have e_g1 := fun o => (g1.alloc o).free; try clear c_g2 f_g2 a_g2 d_g2 e_g2
  replace g2 := g2.below b; have c_g2 := g2.cell; have f_g2 := g2.free; have a_g2 := fun o => (g2.alloc o).cell; have d_g2 := fun o o2 => ((g2.alloc o).alloc o2).cell; have e_g2 := fun o => (g2.alloc o).free; replace B := B.trans (b.mono B.size); clear b
  obtain ⟨yA, yn, yc, rfl⟩ : ∃ A n c, ys = .slice A n c := by obtain ⟨A, c, e⟩ := own_form' oS; exact ⟨A, _, c, e⟩
  have hq1 := g1.lt; have hq2 := g2.lt; have hp0 := B.size
  replace oS : OwnS _ w.heap.size 48 _ m.slots := own_mono oS hz1
  go_upto_region 2 with (fail)
  refine wp_gen (fun Wv => Bx Wv (wa2.heap.size) (26) (#[.slice none 0 0, .slice none 0 0, .slice yA yn yc]) ∧ Below wa2.heap.size wa2 Wv) ⟨((Bx.at_ (by simp))), ((Below.refl _ wa2).alloc (by simp <;> omega) _)⟩ ?_
  rintro wa3 ⟨g3, b⟩
  try clear c_g1 f_g1 a_g1 d_g1 e_g1
  replace g1 := g1.below b; have c_g1 := g1.cell; have f_g1 := g1.free; have a_g1 := fun o => (g1.alloc o).cell; have d_g1 := fun o o2 => ((g1.alloc o).alloc o2).cell; have e_g1 := fun o => (g1.alloc o).free; try clear c_g2 f_g2 a_g2 d_g2 e_g2
  replace g2 := g2.below b; have c_g2 := g2.cell; have f_g2 := g2.free; have a_g2 := fun o => (g2.alloc o).cell; have d_g2 := fun o o2 => ((g2.alloc o).alloc o2).cell; have e_g2 := fun o => (g2.alloc o).free; replace oS := oS.below b; replace B := B.trans (b.mono B.size); clear b
  have c_g3 := g3.cell; have f_g3 := g3.free; have a_g3 := fun o => (g3.alloc o).cell; have d_g3 := fun o o2 => ((g3.alloc o).alloc o2).cell; have e_g3 := fun o => (g3.alloc o).free
  generalize wa2.heap.size = p at *
  have HB := Lib.hid B; have HG := Lib.hid (And.intro g1 (And.intro g2 (And.intro g3 oS)))
  clear B g1 g2 g3 oS c_g1 c_g2 f_g1 f_g2 a_g1 a_g2 d_g1 d_g2 e_g1 e_g2 c_g3 f_g3 a_g3 d_g3 e_g3
  have hwa := HG.out.1.cell
  go_wp2
  clear hwa
  go_loopg [15] NT (fun g i wr => ∃ j : Nat, j ≤ NT ∧ g = NT - j ∧ i = .int .i64 j ∧ Hid (∃ xt, OwnT wr w.heap.size xt (m.types.take j) ∧ Bx wr w.heap.size 26 #[tv, ov, sv] ∧ Bx wr (w.heap.size + 1) 26 #[.slice none 0 0, .slice none 0 0, .slice none 0 0] ∧ Bx wr p 26 #[xt, .slice none 0 0, .slice yA yn yc] ∧ OwnS wr w.heap.size 48 (.slice yA yn yc) m.slots ∧ Below w.heap.size w wr))
  case atStart => exact ⟨0, by omega, by omega, rfl, Lib.hid ⟨_, OwnT.nil _ _, HG.out.1, HG.out.2.1, HG.out.2.2.1, HG.out.2.2.2, HB.out⟩⟩
  case round =>
    clear HG HB
    obtain ⟨j, hj, rfl, rfl, hh⟩ := hrel
    by_cases hlt : j < NT
    · obtain ⟨xt, oT, q1, q2, q3, oS, B⟩ := hh.out
      obtain ⟨ad, x, t, ix, m0, ht, hby⟩ := (H.out.t.below B).at_ (k := j) (by have := HNT.out; omega)
      have htl : t.length ≤ 20 := S4.out t (List.mem_of_getElem? ht.out)
      have CB := Lib.hid (fun w h => CloneB_any x t (by omega) w h)
      obtain ⟨vs, z1, z2, z4⟩ := oT
      have hB := B.size
      have htk : (m.types.take j).length = j := by rw [List.length_take]; have := HNT.out; omega
      go_upto_region 5 with (fail)
      have HT := Lib.hid ht; have HQ := Lib.hid (And.intro q1 (And.intro q2 (And.intro q3 (And.intro oS (And.intro B (And.intro z1 (And.intro z2 z4))))))) 
      have c3 := q3.cell
      refine wp_region_G (val := GCopy.y) (V := fun g => OwnB g.W1 wr.heap.size 5 g.y t ∧ Below wr.heap.size wr g.W1 ∧ (Builtin.append_ #[22, 22] 22 #[xt, .slice (some ⟨g.W1.heap.size, 0, none⟩) 1 1]).run Try.prog (g.W1.alloc (.cells #[g.y] 41)) = .ok g.v g.W3 ∧
          g.W3.ownsRow w.heap.size 41 1 g.v (j + 1) (vs ++ [g.y]) ∧ (g.W1.alloc (.cells #[g.y] 41)).grownBy g.W3 xt.ownBlock)
        (F := fun g => FL [3, 4, 5, 7] (wsT wr p g) 1 2) [1, 3, 4, 5, 7] 3 ⟨undef, wr, undef, wr⟩ 44 #[x] (fun g => FL.dep) (by kernel_rfl) (by kernel_rfl) (by kernel_rfl) (fun g g' φ W hφ hF => FL.agree (Ws := wsT wr p g) (Ws' := wsT wr p g') (k0 := 3) rfl rfl hφ hF) FL.start (by decide) ?_ ?_
      · intro φ W hφ hF
        obtain ⟨rfl, _⟩ := FL.step (i := 0) rfl (by decide) hF hφ (by intro p hp; omega) (by omega)
        refine (CB.out wr.drew hby.out).mono ?_
        rintro e W1 ⟨y, rfl, oy, b1⟩
        have b1' : Below wr.heap.size wr W1 := (Below.refl _ wr).drew.trans b1
        have hz := b1'.size
        obtain ⟨v, W3, r1, r2, r3⟩ := run_append_rd (P := Try.prog) (w := W1.alloc (.cells #[y] 41)) (ty := 22) (B := w.heap.size) Try.underlying22 info_bytes rfl (by omega) (own_below z2 (b1'.alloc hz _)) lit_rd (by intro u hu; simp at hu; subst hu; exact (OwnB.rd oy).oneCell) (by omega) (by omega) (by simp; omega)
        rw [htk] at r2
        have hF' := FL.agree (Ws := wsT wr p ⟨undef, wr, undef, wr⟩) (Ws' := wsT wr p ⟨y, W1, v, W3⟩) (k0 := 3) rfl rfl hφ hF
        exact ⟨⟨y, W1, v, W3⟩, ⟨oy, b1', r1, r2, r3⟩, rfl, (FL.step (i := 0) rfl (by decide) hF' hφ (by intro p hp; omega) (by omega)).2⟩
      · rintro ⟨y, W1, v, W3⟩ ⟨oy, b1, r1, r2, r3⟩
        dsimp only at oy b1 r1 r2 r3 ⊢
        obtain ⟨q1, q2, q3, oS, B, z1, z2, z4⟩ := HQ.out
        have MM := Lib.hid (copyT_mem (t := t) (a := w.heap.size) (b := w.heap.size + 1) (p := p) z1 z2 z4 oy b1 r2 r3 q1 q2 q3 oS B hB (by omega) (by omega) (by omega) (Nat.le_refl _))
        obtain ⟨yyA, yyn, yyc, rfl⟩ : ∃ A n c, y = .slice A n c := by obtain ⟨A, c, e⟩ := own_form' oy; exact ⟨A, _, c, e⟩
        obtain ⟨vA, vn, vc, rfl⟩ : ∃ A n c, v = .slice A n c := by obtain ⟨A, c, e⟩ := own_form' r2; exact ⟨A, _, c, e⟩
        have b1c := (q3.below b1).cell 0; have b2c := ((q3.below b1).alloc (.cells #[.slice yyA yyn yyc] 41)).cell 0
        have b0c := (q3.below (Below.refl _ wr).drew).cell 0
        haveI : Nonempty (FXN (FL [3, 4, 5, 7] (wsT wr p ⟨.slice yyA yyn yyc, W1, .slice vA vn vc, W3⟩) 1 2)) := ⟨⟨_, _, FL.start⟩⟩
        refine wpG_read FL.dep rfl (by decide) (by decide) ?_; go_big_quiet_step (fail); refine wpQuiet_nil ?_
        refine wpG_step FL.dep (by decide) rfl (by rfl) (v := xt) [] rfl (fun f W hF h0 _ => ?_) ?_
        · obtain ⟨⟨d, hd, hd2, rfl⟩, hF'⟩ := FL.read (by decide) hF h0
          refine ⟨_, ?_, hF'⟩
          have hc : (wsT wr p ⟨.slice yyA yyn yyc, W1, .slice vA vn vc, W3⟩ d).cell? ⟨p, 0, none⟩ = some xt := by
            rcases d with _ | _ | _ | d
            · exact b0c
            · exact b1c
            · exact b2c
            · omega
          simp [execOp, go_sem, hc]
        simp only [Act.put, List.setIfInBounds_toArray, List.set_cons_zero, List.set_cons_succ]
        refine wpG_read FL.dep rfl (by decide) (by decide) ?_; go_big_quiet_step (fail); refine wpQuiet_nil ?_
        refine wpG_call #[x] rfl (by simp [Act.eval]) (enter_CloneB x) ?_
        simp only [Act.put, List.setIfInBounds_toArray, List.set_cons_zero, List.set_cons_succ]
        refine wpG_step FL.dep (by decide) rfl (by rfl) (v := .slice (some ⟨W1.heap.size, 0, none⟩) 1 1) [3] (by kernel_rfl) (fun f W hF h0 h1 => ?_) ?_
        · obtain ⟨rfl, h2⟩ := FL.step (i := 1) rfl (by decide) hF h0 (FL.prev (p := 0) (q := 3) rfl (h1 3 (by simp))) (by omega)
          refine ⟨_, ?_, h2⟩
          simp [execOp, go_sem, wsT]
        simp only [Act.put, List.setIfInBounds_toArray, List.set_cons_zero, List.set_cons_succ]
        refine wpG_step FL.dep (by decide) rfl (by rfl) (v := .slice vA vn vc) [4, 1] (by kernel_rfl) (fun f W hF h0 h1 => ?_) ?_
        · obtain ⟨rfl, h2⟩ := FL.step (i := 2) rfl (by decide) hF h0 (FL.prev (p := 1) (q := 4) rfl (h1 4 (by simp))) (fun _ => h1 1 (by simp))
          exact ⟨_, by simp [execOp, resolve, invoke, builtin, Act.eval, wsT, r1], h2⟩
        simp only [Act.put, List.setIfInBounds_toArray, List.set_cons_zero, List.set_cons_succ]
        refine wpG_read FL.dep rfl (by decide) (by decide) ?_; go_big_quiet_step (fail); refine wpQuiet_nil ?_
        refine wpG_store FL.dep (by decide) rfl 22 (.tmp 25) (.tmp 24) rfl (by rfl) (p := .pointer (some ⟨p, 0, none⟩)) (u := .slice vA vn vc) (by rfl) (by rfl) [5] (by kernel_rfl) (fun f W hF h0 h1 => ?_) ?_
        · obtain ⟨rfl, h2⟩ := FL.step (i := 3) rfl (by decide) hF h0 (FL.prev (p := 2) (q := 5) rfl (h1 5 (by simp))) (by omega)
          refine ⟨_, ?_, h2⟩
          have hc := MM.out.1.1; have hf := MM.out.1.2
          simp [go_sem, wsT, hc, hf]
        refine wpG_nil ?_
        intro w' hw'
        obtain rfl := FL.done hw'
        have HM := Lib.hid (MM.out.2)
        clear this MM HQ q1 q2 q3 oS B z1 z2 z4 b1c b2c b0c hw' r1 r2 r3 oy b1 c3
        go_wp2
        go_roundg (NT - (j + 1))
        case measure => omega
        case rel =>
          refine ⟨j + 1, by omega, rfl, by go_num, Lib.hid ⟨_, ?_, HM.out.2⟩⟩
          have := HM.out.1
          rwa [List.take_add_one, HT.out.out]
    · obtain rfl : j = NT := by omega
      obtain ⟨xt, oT, q1, q2, q3, oS, B⟩ := hh.out
      rw [List.take_of_length_le (by have := HNT.out; omega)] at oT
      clear hh
      have hwa := q1.cell
      have HG := Lib.hid (And.intro q1 (And.intro q2 (And.intro q3 (And.intro oT oS)))); have HB := Lib.hid B
      clear q1 q2 q3 oT oS B
      go_wp2
      clear hwa
      go_loopg [30] NO (fun g i wr => ∃ k : Nat, k ≤ NO ∧ g = NO - k ∧ i = .int .i64 k ∧ Hid (∃ ot, OwnO wr w.heap.size ot (m.objs.take k) ∧ Bx wr w.heap.size 26 #[tv, ov, sv] ∧ Bx wr (w.heap.size + 1) 26 #[.slice none 0 0, .slice none 0 0, .slice none 0 0] ∧ Bx wr p 26 #[xt, ot, .slice yA yn yc] ∧ OwnT wr w.heap.size xt m.types ∧ OwnS wr w.heap.size 48 (.slice yA yn yc) m.slots ∧ Below w.heap.size w wr))
      case atStart => exact ⟨0, by omega, by omega, rfl, Lib.hid ⟨_, OwnO.nil _ _, HG.out.1, HG.out.2.1, HG.out.2.2.1, HG.out.2.2.2.1, HG.out.2.2.2.2, HB.out⟩⟩
      case round =>
        clear HG HB
        obtain ⟨k, hk, rfl, rfl, hh⟩ := hrel
        by_cases hltk : k < NO
        · obtain ⟨ot, oO, q1, q2, q3, oT, oS, B⟩ := hh.out
          obtain ⟨ob, oq, x, o, ix, m0, m1, ho, hx, hob⟩ := (H.out.o.below B).at_ (k := k) (by have := HNO.out; omega)
          have hol : o.fs.length ≤ 20 := S5.out o (List.mem_of_getElem? ho.out)
          have CW := Lib.hid (fun w h => CloneW_any x o.fs (by omega) w h)
          have hxx := hx.out
          have hlt0 : ot.ownBlock = none ∨ ot.ownBlock ≠ some wr.heap.size := by
            obtain ⟨vs, z1, z2, _⟩ := oO
            cases hob : ot.ownBlock with
            | none => exact .inl rfl
            | some g => have := (z2.lt g hob).2; exact .inr (by simp; omega)
          have hpl := q3.lt
          have htk : (m.objs.take k).length = k := by rw [List.length_take]; have := HNO.out; omega
          obtain ⟨xA, xn, xc, rfl⟩ : ∃ A n c, x = .slice A n c := by obtain ⟨A, c, e, _⟩ := hxx; exact ⟨A, _, c, e⟩
          clear hh hx
          go_upto_region 10 with (fail)
          refine wp_gen (fun Wv => Bx Wv (wr.heap.size) (45) (#[.int .i64 o.ty, .slice xA xn xc]) ∧ Below wr.heap.size wr Wv) ⟨((Bx.at_ (by simp))), ((Below.refl _ wr).alloc (by simp <;> omega) _)⟩ ?_
          rintro wa1 ⟨g4, b⟩
          replace q1 := q1.below b; replace q2 := q2.below b; replace q3 := q3.below b; replace oT := oT.below b; replace oS := oS.below b; replace oO := oO.below b; replace hxx := hxx.below b; replace B := B.trans (b.mono B.size); clear b
          have c_g4 := g4.cell; have f_g4 := g4.free; have a_g4 := fun o => (g4.alloc o).cell; have d_g4 := fun o o2 => ((g4.alloc o).alloc o2).cell; have e_g4 := fun o => (g4.alloc o).free
          clear m0 m1
          obtain ⟨vs, z1, z2, z4, z5⟩ := oO
          have hB := B.size
          have HT := Lib.hid ho; have HQ := Lib.hid (And.intro q1 (And.intro q2 (And.intro q3 (And.intro oT (And.intro oS (And.intro B (And.intro z1 (And.intro z2 (And.intro z4 z5)))))))))
          clear c_g4 f_g4 a_g4 d_g4 e_g4
          refine wp_region_G (val := GCopy.y) (V := fun g => OwnW g.W1 wa1.heap.size 46 g.y o.fs ∧ Below wa1.heap.size wa1 g.W1 ∧ (Builtin.append_ #[23, 23] 23 #[ot, .slice (some ⟨g.W1.heap.size, 0, none⟩) 1 1]).run Try.prog (g.W1.alloc (.cells #[i64 o.ty, g.y] 45)) = .ok g.v g.W3 ∧
              g.W3.ownsRow w.heap.size 45 2 g.v (k + 1) (obC (m.objs.take k) vs ++ [i64 o.ty, g.y]) ∧ (g.W1.alloc (.cells #[i64 o.ty, g.y] 45)).grownBy g.W3 ot.ownBlock)
            (F := fun g => FL [6, 7, 8, 9, 11] (wsO wa1 p o.ty g) 1 3) [1, 6, 7, 8, 9, 11] 6 ⟨undef, wr, undef, wr⟩ 45 #[.slice xA xn xc] (fun g => FL.dep) (by kernel_rfl) (by kernel_rfl) (by kernel_rfl) (fun g g' φ W hφ hF => FL.agree (Ws := wsO wa1 p o.ty g) (Ws' := wsO wa1 p o.ty g') (k0 := 6) rfl rfl hφ hF) FL.start (by decide) ?_ ?_
          · intro φ W hφ hF
            obtain ⟨rfl, _⟩ := FL.step (i := 0) rfl (by decide) hF hφ (by intro p hp; omega) (by omega)
            refine (CW.out wa1.drew hxx).mono ?_
            rintro e W1 ⟨y, rfl, oy, b1⟩
            have b1' : Below wa1.heap.size wa1 W1 := (Below.refl _ wa1).drew.trans b1
            have hz := b1'.size
            obtain ⟨v, W3, r1, r2, r3⟩ := run_append_rd (P := Try.prog) (w := W1.alloc (.cells #[i64 o.ty, y] 45)) (ty := 23) (B := w.heap.size) Try.underlying23 info_obj rfl (by omega) (own_below z2 (b1'.alloc hz _)) lit_obj (one_obj (OwnW.rd oy).oneCell) (by omega) (by omega) (by simp; omega)
            rw [htk] at r2
            have hF' := FL.agree (Ws := wsO wa1 p o.ty ⟨undef, wr, undef, wr⟩) (Ws' := wsO wa1 p o.ty ⟨y, W1, v, W3⟩) (k0 := 6) rfl rfl hφ hF
            exact ⟨⟨y, W1, v, W3⟩, ⟨oy, b1', r1, r2, r3⟩, rfl, (FL.step (i := 0) rfl (by decide) hF' hφ (by intro p hp; omega) (by omega)).2⟩
          · rintro ⟨y, W1, v, W3⟩ ⟨oy, b1, r1, r2, r3⟩
            dsimp only at oy b1 r1 r2 r3 ⊢
            have MM := Lib.hid (copyO_mem (o := o) (a := w.heap.size) (b := w.heap.size + 1) (p := p) z1 z2 z4 z5 oy b1 r2 r3 q1 q2 q3 oT oS B hB (by omega) (by omega) (by omega) g4 hlt0 (by omega))
            obtain ⟨yyA, yyn, yyc, rfl⟩ : ∃ A n c, y = .slice A n c := by obtain ⟨A, c, e⟩ := own_form' oy; exact ⟨A, _, c, e⟩
            obtain ⟨vA, vn, vc, rfl⟩ : ∃ A n c, v = .slice A n c := by obtain ⟨A, c, e⟩ := own_form' r2; exact ⟨A, _, c, e⟩
            have b1c := (q3.below b1).cell 1; have b2c := ((q3.below b1).alloc (.cells #[i64 o.ty, .slice yyA yyn yyc] 45)).cell 1
            have b0c := (q3.below (Below.refl _ wa1).drew).cell 1
            have c4 := fun x : FXN (FL [6, 7, 8, 9, 11] (wsO wa1 p o.ty ⟨.slice yyA yyn yyc, W1, .slice vA vn vc, W3⟩) 1 3) => (FL.all (p := fun W => Bx W wr.heap.size 45 #[.int .i64 o.ty, .slice xA xn xc]) (by
              intro d hd
              rcases d with _ | _ | _ | _ | _ | d
              · exact g4.below (Below.refl _ wa1).drew
              · exact g4.below b1
              · exact g4.below b1
              · exact (g4.below b1).alloc _
              · exact MM.out.2.2.2.2.2.2.2.2.1
              · exact MM.out.2.2.2.2.2.2.2.2.2) x).cell
            haveI : Nonempty (FXN (FL [6, 7, 8, 9, 11] (wsO wa1 p o.ty ⟨.slice yyA yyn yyc, W1, .slice vA vn vc, W3⟩) 1 3)) := ⟨⟨_, _, FL.start⟩⟩
            refine wpG_read FL.dep rfl (by decide) (by decide) ?_; go_big_quiet_step (fail); refine wpQuiet_nil ?_
            refine wpG_step FL.dep (by decide) rfl (by rfl) (v := ot) [] rfl (fun f W hF h0 _ => ?_) ?_
            · obtain ⟨⟨d, hd, hd2, rfl⟩, hF'⟩ := FL.read (by decide) hF h0
              refine ⟨_, ?_, hF'⟩
              have hc : (wsO wa1 p o.ty ⟨.slice yyA yyn yyc, W1, .slice vA vn vc, W3⟩ d).cell? ⟨p, 1, none⟩ = some ot := by
                rcases d with _ | _ | _ | _ | d
                · exact b0c
                · exact b1c
                · exact b1c
                · exact b2c
                · omega
              simp [execOp, go_sem, hc]
            simp only [Act.put, List.setIfInBounds_toArray, List.set_cons_zero, List.set_cons_succ]
            iterate 4 (refine wpG_read FL.dep rfl (by decide) (by decide) ?_; go_big_quiet_step (fail); refine wpQuiet_nil ?_)
            refine wpG_call #[.slice xA xn xc] rfl (by simp [Act.eval]) (enter_CloneW _) ?_
            simp only [Act.put, List.setIfInBounds_toArray, List.set_cons_zero, List.set_cons_succ]
            refine wpG_step FL.dep (by decide) rfl (by rfl) (v := .agg #[i64 o.ty, .slice yyA yyn yyc]) [6] (by kernel_rfl) (fun f W hF h0 h1 => ?_) ?_
            · obtain ⟨rfl, h2⟩ := FL.step (i := 1) rfl (by decide) hF h0 (FL.prev (p := 0) (q := 6) rfl (h1 6 (by simp))) (by omega)
              refine ⟨_, ?_, h2⟩
              simp [execOp, go_sem, wsO, i64]
            simp only [Act.put, List.setIfInBounds_toArray, List.set_cons_zero, List.set_cons_succ]
            refine wpG_step FL.dep (by decide) rfl (by rfl) (v := .slice (some ⟨W1.heap.size, 0, none⟩) 1 1) [7] (by kernel_rfl) (fun f W hF h0 h1 => ?_) ?_
            · obtain ⟨rfl, h2⟩ := FL.step (i := 2) rfl (by decide) hF h0 (FL.prev (p := 1) (q := 7) rfl (h1 7 (by simp))) (by omega)
              refine ⟨_, ?_, h2⟩
              simp [execOp, go_sem, wsO, i64]
            simp only [Act.put, List.setIfInBounds_toArray, List.set_cons_zero, List.set_cons_succ]
            refine wpG_step FL.dep (by decide) rfl (by rfl) (v := .slice vA vn vc) [8, 1] (by kernel_rfl) (fun f W hF h0 h1 => ?_) ?_
            · obtain ⟨rfl, h2⟩ := FL.step (i := 3) rfl (by decide) hF h0 (FL.prev (p := 2) (q := 8) rfl (h1 8 (by simp))) (fun _ => h1 1 (by simp))
              exact ⟨_, by simp [execOp, resolve, invoke, builtin, Act.eval, wsO, r1], h2⟩
            simp only [Act.put, List.setIfInBounds_toArray, List.set_cons_zero, List.set_cons_succ]
            refine wpG_read FL.dep rfl (by decide) (by decide) ?_; go_big_quiet_step (fail); refine wpQuiet_nil ?_
            refine wpG_store FL.dep (by decide) rfl 23 (.tmp 44) (.tmp 43) rfl (by rfl) (p := .pointer (some ⟨p, 1, none⟩)) (u := .slice vA vn vc) (by rfl) (by rfl) [9] (by kernel_rfl) (fun f W hF h0 h1 => ?_) ?_
            · obtain ⟨rfl, h2⟩ := FL.step (i := 4) rfl (by decide) hF h0 (FL.prev (p := 3) (q := 9) rfl (h1 9 (by simp))) (by omega)
              refine ⟨_, ?_, h2⟩
              have hc := MM.out.1.1; have hf := MM.out.1.2
              simp [go_sem, wsO, hc, hf]
            refine wpG_nil ?_
            intro w' hw'
            obtain rfl := FL.done hw'
            have HM := Lib.hid (MM.out.2)
            clear this MM HQ q1 q2 q3 oT oS B z1 z2 z4 z5 b1c b2c b0c hw' r1 r2 r3 oy b1 c4 g4 hxx
            go_wp2
            go_roundg (NO - (k + 1))
            case measure => omega
            case rel =>
              obtain ⟨k1, k2, k3, k4, k5, k6, k7, _⟩ := HM.out
              refine ⟨k + 1, by omega, rfl, by go_num, Lib.hid ⟨_, ?_, k2, k3, k4, k5, k6, k7⟩⟩
              rwa [List.take_add_one, HT.out.out]
        · obtain rfl : k = NO := by omega
          obtain ⟨ot, oO, q1, q2, q3, oT, oS, B⟩ := hh.out
          rw [List.take_of_length_le (by have := HNO.out; omega)] at oO
          obtain ⟨oA, on, oc, rfl⟩ : ∃ A n c, ot = .slice A n c := by obtain ⟨vs, _, z2, _⟩ := oO; obtain ⟨A, c, e⟩ := own_form' z2; exact ⟨A, _, c, e⟩
          obtain ⟨xA, xn, xc, rfl⟩ : ∃ A n c, xt = .slice A n c := by obtain ⟨vs, _, z2, _⟩ := oT; obtain ⟨A, c, e⟩ := own_form' z2; exact ⟨A, _, c, e⟩
          have c2 := q2.cell; have c3 := q3.cell; have f2 := q2.free
          have OO := Lib.hid (And.intro oT (And.intro oO oS)); have HB := Lib.hid B
          clear hh q1 oT oO oS B
          go_wp2
          refine bodyPost_ret (v := .agg #[.slice xA xn xc, .slice oA on oc, .slice yA yn yc]) (by simp [results, Try.results24, go_sem, c2, c3, f2]) rfl ?_
          refine ⟨_, _, _, rfl, OwnM.set3 ⟨OO.out.1, OO.out.2.1, OO.out.2.2⟩ q2, ?_⟩
          have B := HB.out
          exact ((B.setCell (p := ⟨w.heap.size + 1, 0, none⟩) (by simp) _).setCell (p := ⟨w.heap.size + 1, 1, none⟩) (by simp) _).setCell (p := ⟨w.heap.size + 1, 2, none⟩) (by simp) _
end Go.Proofs.Yteejianjjpdimaa
namespace Go.Proofs.Yteejianjjpdimaa
open Go.RowKit L02 L13 L18 L20
/-- the worlds of a round of Twin that copies one type -/
def wtT (w : World) (p : Nat) (y v : Value) (W2 W4 : World) : Nat → World
  | 0 => w.drew
  | 1 => w.drew.alloc (.cells #[] 5)
  | 2 => W2
  | 3 => W2.alloc (.cells #[y] 41)
  | 4 => W4
  | _ => W4.setCell ⟨p, 0, none⟩ v
/-- .. one object -/
def wtO (w : World) (p : Nat) (ty : Int) (y v : Value) (W2 W4 : World) : Nat → World
  | 0 => w.drew
  | 1 => w.drew.alloc (.cells #[] 46)
  | 2 => W2
  | 3 => W2
  | 4 => W2.alloc (.cells #[i64 ty, y] 45)
  | 5 => W4
  | _ => W4.setCell ⟨p, 1, none⟩ v
set_option maxRecDepth 100000 in
set_option maxHeartbeats 4000000 in
theorem TwinM_any (tv ov sv : Value) (m : Mo) (hsm : Small m) (w : World) (h : Mod w tv ov sv m) :
    Calls Try.prog 13 #[.agg #[tv, ov, sv]] w fun e w' => ∃ tv' ov' sv', e = .returned (.agg #[tv', ov', sv']) ∧ OwnM w' w.heap.size 48 tv' ov' sv' m ∧ Below w.heap.size w w' := by
  have B : Below w.heap.size w w := Below.refl _ _
  have lt := h.t.len; have lo := h.o.len
  obtain ⟨NT, hNT⟩ : ∃ N, N = m.types.length := ⟨_, rfl⟩
  obtain ⟨NO, hNO⟩ : ∃ N, N = m.objs.length := ⟨_, rfl⟩
  rw [← hNT] at lt; rw [← hNO] at lo
  obtain ⟨s1, s2, s3, s4, s5⟩ := hsm
  have hNT20 : NT ≤ 20 := by omega
  have hNO962 : NO ≤ 962 := by omega
  have H := Lib.hid h; have HNT := Lib.hid hNT; have HNO := Lib.hid hNO; have S3 := Lib.hid s3; have S4 := Lib.hid s4; have S5 := Lib.hid s5
  clear h hNT hNO s4 s5 s1 s2 s3
  go_enter Try.func13, Try.ntmps13
  go_upto_region 2 with (fail)
  refine wp_gen (fun Wv => Bx Wv (w.heap.size) (26) (#[tv, ov, sv]) ∧ Bx Wv (w.heap.size + 1) (26) (#[.slice none 0 0, .slice none 0 0, .slice none 0 0]) ∧ Bx Wv (w.heap.size + 1 + 1) (26) (#[.slice none 0 0, .slice none 0 0, .slice none 0 0]) ∧ Below w.heap.size w Wv) ⟨((((Bx.at_ (by simp)).alloc _).alloc _)), (((Bx.at_ (by simp)).alloc _)), ((Bx.at_ (by simp))), ((((Below.refl _ w).alloc (by simp <;> omega) _).alloc (by simp <;> omega) _).alloc (by simp <;> omega) _)⟩ ?_
  rintro wa1 ⟨g1, g2, g3, b⟩
  replace B := B.trans (b.mono B.size); clear b
  have c_g1 := g1.cell; have f_g1 := g1.free; have a_g1 := fun o => (g1.alloc o).cell; have d_g1 := fun o o2 => ((g1.alloc o).alloc o2).cell; have e_g1 := fun o => (g1.alloc o).free
  have c_g2 := g2.cell; have f_g2 := g2.free; have a_g2 := fun o => (g2.alloc o).cell; have d_g2 := fun o o2 => ((g2.alloc o).alloc o2).cell; have e_g2 := fun o => (g2.alloc o).free
  have c_g3 := g3.cell; have f_g3 := g3.free; have a_g3 := fun o => (g3.alloc o).cell; have d_g3 := fun o o2 => ((g3.alloc o).alloc o2).cell; have e_g3 := fun o => (g3.alloc o).free
  generalize hpp : w.heap.size + 1 + 1 = p at *
  have hB0 : w.heap.size + 2 = p := by omega
  clear hpp
  have HB := Lib.hid B; have HG := Lib.hid (And.intro g1 (And.intro g2 g3))
  clear B g1 g2 g3 c_g1 c_g2 f_g1 f_g2 a_g1 a_g2 d_g1 d_g2 e_g1 e_g2 c_g3 f_g3 a_g3 d_g3 e_g3
  have hwa := HG.out.1.cell
  go_wp2
  clear hwa
  go_loopg [4] NT (fun g i wr => ∃ j : Nat, j ≤ NT ∧ g = NT - j ∧ i = .int .i64 j ∧ Hid (∃ xt, OwnT wr w.heap.size xt (m.types.take j) ∧ Bx wr w.heap.size 26 #[tv, ov, sv] ∧ Bx wr (w.heap.size + 1) 26 #[.slice none 0 0, .slice none 0 0, .slice none 0 0] ∧ Bx wr p 26 #[xt, .slice none 0 0, .slice none 0 0] ∧ Below w.heap.size w wr))
  case atStart => exact ⟨0, by omega, by omega, rfl, Lib.hid ⟨_, OwnT.nil _ _, HG.out.1, HG.out.2.1, HG.out.2.2, HB.out⟩⟩
  case round =>
    clear HG HB
    obtain ⟨j, hj, rfl, rfl, hh⟩ := hrel
    by_cases hlt : j < NT
    · obtain ⟨xt, oT, q1, q2, q3, B⟩ := hh.out
      obtain ⟨ad, x, t, ix, m0, ht, hby⟩ := H.out.t.at_ (k := j) (by have := HNT.out; omega)
      have htl : t.length ≤ 20 := S4.out t (List.mem_of_getElem? ht.out)
      obtain ⟨vs, z1, z2, z4⟩ := oT
      have hB := B.size
      have htk : (m.types.take j).length = j := by rw [List.length_take]; have := HNT.out; omega
      have c1 := q1.cell
      go_upto_region 5 with (fail)
      have HT := Lib.hid ht
      clear hh
      have b1 : Below wr.heap.size wr (wr.drew.alloc (.cells #[] 5)) := ((Below.refl _ wr).drew).alloc (Nat.le_refl _) _
      have r1 := run_lit0 (P := Try.prog) (t := 41) (e := 5) wr.drew Try.underlying41 (by kernel_rfl)
      replace r1 : (Instr.buildSlice 41 0 #[]).run Try.prog wr.drew = .ok (.slice (some ⟨wr.heap.size, 0, none⟩) 0 0) (wr.drew.alloc (.cells #[] 5)) := r1
      obtain ⟨y, W2, r2, o2, gr2⟩ := run_append_rd (P := Try.prog) (w := wr.drew.alloc (.cells #[] 5)) (ty := 41) Try.underlying41 info_u8 rfl (by omega) (lit0_own (B := wr.heap.size) (w := wr.drew) (e := 5) (sz := 1) (Nat.le_refl _)) (hby.out.below (B.trans (b1.mono hB))) (one_u8s _) (by omega) (by omega) b1.size
      replace r2 : (Builtin.append_ #[41, 41] 41 #[.slice (some ⟨wr.heap.size, 0, none⟩) 0 0, x]).run Try.prog (wr.drew.alloc (.cells #[] 5)) = .ok y W2 := r2
      have b2 : Below wr.heap.size wr W2 := b1.grown gr2 b1.size (fun k hk => (lit0_own (B := wr.heap.size) (w := wr.drew) (e := 5) (sz := 1) (Nat.le_refl _) |>.lt k hk).1)
      have oy : OwnB W2 wr.heap.size 5 y t := OwnB.of o2 (by simp)
      have hz := b2.size
      obtain ⟨v, W4, r3, o3, gr3⟩ := run_append_rd (P := Try.prog) (w := W2.alloc (.cells #[y] 41)) (ty := 22) (B := w.heap.size) Try.underlying22 info_bytes rfl (by omega) (own_below z2 (b2.alloc hz _)) lit_rd (by intro u hu; simp at hu; subst hu; exact (OwnB.rd oy).oneCell) (by omega) (by omega) (by simp; omega)
      rw [htk] at o3
      -- (slots: none yet)
      have oS0 : OwnS wr w.heap.size 48 (.slice none 0 0) [] := OwnS.nil _ _ _
      have MM := Lib.hid (copyT_mem (t := t) (a := w.heap.size) (b := w.heap.size + 1) (p := p) z1 z2 z4 oy b2 o3 gr3 q1 q2 q3 oS0 B hB (by omega) (by omega) (by omega) (Nat.le_refl _))
      have b3 := b2.alloc hz (.cells #[y] 41)
      have q14 : Bx W4 w.heap.size 26 #[tv, ov, sv] := Bx.grown (q1.below b3) gr3 (own_not_bx (own_below z2 b3) (q1.below b3) (by decide))
      have B4 : Below w.heap.size w W4 := (B.trans (b3.mono hB)).grown gr3 (Nat.le_trans hB b3.size) (fun k hk => ((own_below z2 b3).lt k hk).1)
      obtain ⟨yyA, yyn, yyc, rfl⟩ : ∃ A n c, y = .slice A n c := by obtain ⟨A, c, e⟩ := own_form' oy; exact ⟨A, _, c, e⟩
      obtain ⟨vA, vn, vc, rfl⟩ : ∃ A n c, v = .slice A n c := by obtain ⟨A, c, e⟩ := own_form' o3; exact ⟨A, _, c, e⟩
      have AL : ∀ d, d ≤ 5 → Below w.heap.size w (wtT wr p (.slice yyA yyn yyc) (.slice vA vn vc) W2 W4 d) ∧ Bx (wtT wr p (.slice yyA yyn yyc) (.slice vA vn vc) W2 W4 d) w.heap.size 26 #[tv, ov, sv] := by
        intro d hd
        rcases d with _ | _ | _ | _ | _ | d
        · exact ⟨B.drew, q1⟩
        · exact ⟨B.trans (b1.mono hB), q1.below b1⟩
        · exact ⟨B.trans (b2.mono hB), q1.below b2⟩
        · exact ⟨B.trans (b3.mono hB), q1.below b3⟩
        · exact ⟨B4, q14⟩
        · exact ⟨MM.out.2.2.2.2.2.2, MM.out.2.2.1⟩
      have ca := fun x : FXN (FL [2, 8, 9, 10, 12] (wtT wr p (.slice yyA yyn yyc) (.slice vA vn vc) W2 W4) 1 3) => (FL.all (ks := [2, 8, 9, 10, 12]) (Ws := wtT wr p (.slice yyA yyn yyc) (.slice vA vn vc) W2 W4) (p := fun W => Below w.heap.size w W ∧ Bx W w.heap.size 26 #[tv, ov, sv]) AL x).2.cell
      have cb := fun y : FXN (FL [2, 8, 9, 10, 12] (wtT wr p (.slice yyA yyn yyc) (.slice vA vn vc) W2 W4) 1 3) => cell_later (FL.all (ks := [2, 8, 9, 10, 12]) (Ws := wtT wr p (.slice yyA yyn yyc) (.slice vA vn vc) W2 W4) (p := fun W => Below w.heap.size w W ∧ Bx W w.heap.size 26 #[tv, ov, sv]) AL y).1 m0
      have p0 := q3.cell 0; have p1 := (q3.below b1).cell 0; have p2 := (q3.below b2).cell 0; have p3 := (q3.below b3).cell 0
      haveI : Nonempty (FXN (FL [2, 8, 9, 10, 12] (wtT wr p (.slice yyA yyn yyc) (.slice vA vn vc) W2 W4) 1 3)) := ⟨⟨_, _, FL.start⟩⟩
      clear c1
      refine wp_region_N (FL [2, 8, 9, 10, 12] (wtT wr p (.slice yyA yyn yyc) (.slice vA vn vc) W2 W4) 1 3) [1, 2, 8, 9, 10, 12] FL.dep (by kernel_rfl) (by kernel_rfl) (by kernel_rfl) FL.start ?_
      refine wpN_read FL.dep rfl (by decide) ?_; go_big_quiet_step (fail); refine wpQuiet_nil ?_
      refine wpN_step FL.dep rfl (by rfl) (v := xt) [] rfl (fun f W hF h0 _ => ?_) ?_
      · obtain ⟨⟨d, hd, hd2, rfl⟩, hF'⟩ := FL.read (by decide) hF h0
        refine ⟨_, ?_, hF'⟩
        have hc : (wtT wr p (.slice yyA yyn yyc) (.slice vA vn vc) W2 W4 d).cell? ⟨p, 0, none⟩ = some xt := by
          rcases d with _ | _ | _ | _ | d
          · exact p0
          · exact p1
          · exact p2
          · exact p3
          · omega
        simp [execOp, go_sem, hc]
      simp only [Act.put, List.setIfInBounds_toArray, List.set_cons_zero, List.set_cons_succ]
      refine wpN_step FL.dep rfl (by rfl) (v := .slice (some ⟨wr.heap.size, 0, none⟩) 0 0) [] (by kernel_rfl) (fun f W hF h0 h1 => ?_) ?_
      · obtain ⟨rfl, h2⟩ := FL.step (i := 0) rfl (by decide) hF h0 (by intro p hp; omega) (by omega)
        exact ⟨_, by simp [execOp, wtT, r1], h2⟩
      simp only [Act.put, List.setIfInBounds_toArray, List.set_cons_zero, List.set_cons_succ]
      iterate 5 (refine wpN_read FL.dep rfl (by decide) ?_; go_big_quiet_step (fail); refine wpQuiet_nil ?_)
      refine wpN_step FL.dep rfl (by rfl) (v := .slice yyA yyn yyc) [2] (by kernel_rfl) (fun f W hF h0 h1 => ?_) ?_
      · obtain ⟨rfl, h2⟩ := FL.step (i := 1) rfl (by decide) hF h0 (FL.prev (p := 0) (q := 2) rfl (h1 2 (by simp))) (by omega)
        exact ⟨_, by simp [execOp, resolve, invoke, builtin, Act.eval, wtT, r2], h2⟩
      simp only [Act.put, List.setIfInBounds_toArray, List.set_cons_zero, List.set_cons_succ]
      refine wpN_step FL.dep rfl (by rfl) (v := .slice (some ⟨W2.heap.size, 0, none⟩) 1 1) [8] (by kernel_rfl) (fun f W hF h0 h1 => ?_) ?_
      · obtain ⟨rfl, h2⟩ := FL.step (i := 2) rfl (by decide) hF h0 (FL.prev (p := 1) (q := 8) rfl (h1 8 (by simp))) (by omega)
        exact ⟨_, by simp [execOp, go_sem, wtT], h2⟩
      simp only [Act.put, List.setIfInBounds_toArray, List.set_cons_zero, List.set_cons_succ]
      refine wpN_step FL.dep rfl (by rfl) (v := .slice vA vn vc) [9, 1] (by kernel_rfl) (fun f W hF h0 h1 => ?_) ?_
      · obtain ⟨rfl, h2⟩ := FL.step (i := 3) rfl (by decide) hF h0 (FL.prev (p := 2) (q := 9) rfl (h1 9 (by simp))) (fun _ => h1 1 (by simp))
        exact ⟨_, by simp [execOp, resolve, invoke, builtin, Act.eval, wtT, r3], h2⟩
      simp only [Act.put, List.setIfInBounds_toArray, List.set_cons_zero, List.set_cons_succ]
      refine wpN_read FL.dep rfl (by decide) ?_; go_big_quiet_step (fail); refine wpQuiet_nil ?_
      refine wpN_storeD FL.dep rfl 22 (.tmp 24) (.tmp 23) rfl (by rfl) (p := .pointer (some ⟨p, 0, none⟩)) (u := .slice vA vn vc) (by rfl) (by rfl) [10] (by kernel_rfl) (fun f W hF h0 h1 => ?_) ?_
      · obtain ⟨rfl, h2⟩ := FL.step (i := 4) rfl (by decide) hF h0 (FL.prev (p := 3) (q := 10) rfl (h1 10 (by simp))) (by omega)
        refine ⟨_, ?_, h2⟩
        have hc := MM.out.1.1; have hf := MM.out.1.2
        simp [go_sem, wtT, hc, hf]
      show ∀ w', _ → _
      intro w' hw'
      obtain rfl := FL.done hw'
      have HM := Lib.hid (MM.out.2)
      clear this MM q1 q2 q3 oS0 B z1 z2 z4 hw' r1 r2 r3 oy b1 b2 b3 p0 p1 p2 p3 AL ca cb q14 B4 o2 o3 gr2 gr3 m0
      go_wp2
      go_roundg (NT - (j + 1))
      case measure => omega
      case rel =>
        obtain ⟨k1, k2, k3, k4, _, k6⟩ := HM.out
        refine ⟨j + 1, by omega, rfl, by go_num, Lib.hid ⟨_, ?_, k2, k3, k4, k6⟩⟩
        rwa [List.take_add_one, HT.out.out]
    · obtain rfl : j = NT := by omega
      obtain ⟨xt, oT, q1, q2, q3, B⟩ := hh.out
      rw [List.take_of_length_le (by have := HNT.out; omega)] at oT
      clear hh
      have hwa := q1.cell
      have HG := Lib.hid (And.intro q1 (And.intro q2 (And.intro q3 oT))); have HB := Lib.hid B
      clear q1 q2 q3 oT B
      go_wp2
      clear hwa
      go_loopg [5] NO (fun g i wr => ∃ k : Nat, k ≤ NO ∧ g = NO - k ∧ i = .int .i64 k ∧ Hid (∃ ot, OwnO wr w.heap.size ot (m.objs.take k) ∧ Bx wr w.heap.size 26 #[tv, ov, sv] ∧ Bx wr (w.heap.size + 1) 26 #[.slice none 0 0, .slice none 0 0, .slice none 0 0] ∧ Bx wr p 26 #[xt, ot, .slice none 0 0] ∧ OwnT wr w.heap.size xt m.types ∧ Below w.heap.size w wr))
      case atStart => exact ⟨0, by omega, by omega, rfl, Lib.hid ⟨_, OwnO.nil _ _, HG.out.1, HG.out.2.1, HG.out.2.2.1, HG.out.2.2.2, HB.out⟩⟩
      case round =>
        clear HG HB
        obtain ⟨k, hk, rfl, rfl, hh⟩ := hrel
        by_cases hltk : k < NO
        · obtain ⟨ot, oO, q1, q2, q3, oT, B⟩ := hh.out
          obtain ⟨ob, oq, x, o, ix, m0, m1, ho, hx, hob⟩ := H.out.o.at_ (k := k) (by have := HNO.out; omega)
          have hol : o.fs.length ≤ 20 := S5.out o (List.mem_of_getElem? ho.out)
          have hxx := hx.out
          have htk : (m.objs.take k).length = k := by rw [List.length_take]; have := HNO.out; omega
          obtain ⟨xA, xn, xc, rfl⟩ : ∃ A n c, x = .slice A n c := by obtain ⟨A, c, e, _⟩ := hxx; exact ⟨A, _, c, e⟩
          obtain ⟨vs, z1, z2, z4, z5⟩ := oO
          have hB := B.size
          have c1 := q1.cell
          go_upto_region 9 with (fail)
          have HT := Lib.hid ho
          clear hh hx
          have b1 : Below wr.heap.size wr (wr.drew.alloc (.cells #[] 46)) := ((Below.refl _ wr).drew).alloc (Nat.le_refl _) _
          have r1 := run_lit0 (P := Try.prog) (t := 43) (e := 46) wr.drew Try.underlying43 (by kernel_rfl)
          replace r1 : (Instr.buildSlice 43 0 #[]).run Try.prog wr.drew = .ok (.slice (some ⟨wr.heap.size, 0, none⟩) 0 0) (wr.drew.alloc (.cells #[] 46)) := r1
          obtain ⟨y, W2, r2, o2, gr2⟩ := run_append_rd (P := Try.prog) (w := wr.drew.alloc (.cells #[] 46)) (ty := 43) Try.underlying43 info_u64 rfl (by omega) (lit0_own (B := wr.heap.size) (w := wr.drew) (e := 46) (sz := 1) (Nat.le_refl _)) (hxx.below (B.trans (b1.mono hB))) (one_u64s _) (by omega) (by omega) b1.size
          replace r2 : (Builtin.append_ #[43, 43] 43 #[.slice (some ⟨wr.heap.size, 0, none⟩) 0 0, .slice xA xn xc]).run Try.prog (wr.drew.alloc (.cells #[] 46)) = .ok y W2 := r2
          have b2 : Below wr.heap.size wr W2 := b1.grown gr2 b1.size (fun k hk => (lit0_own (B := wr.heap.size) (w := wr.drew) (e := 46) (sz := 1) (Nat.le_refl _) |>.lt k hk).1)
          have oy : OwnW W2 wr.heap.size 46 y o.fs := OwnW.of o2 (by simp)
          have hz := b2.size
          obtain ⟨v, W4, r3, o3, gr3⟩ := run_append_rd (P := Try.prog) (w := W2.alloc (.cells #[i64 o.ty, y] 45)) (ty := 23) (B := w.heap.size) Try.underlying23 info_obj rfl (by omega) (own_below z2 (b2.alloc hz _)) lit_obj (one_obj (OwnW.rd oy).oneCell) (by omega) (by omega) (by simp; omega)
          rw [htk] at o3
          have oS0 : OwnS wr w.heap.size 48 (.slice none 0 0) [] := OwnS.nil _ _ _
          have hlt0 := own_not_bx z2 q1 (by decide)
          have MM := Lib.hid (copyO_mem (o := o) (a := w.heap.size) (b := w.heap.size + 1) (p := p) z1 z2 z4 z5 oy b2 o3 gr3 q1 q2 q3 oT oS0 B hB (by omega) (by omega) (by omega) q1 hlt0 (by omega))
          have b3 := b2.alloc hz (.cells #[i64 o.ty, y] 45)
          have B4 : Below w.heap.size w W4 := (B.trans (b3.mono hB)).grown gr3 (Nat.le_trans hB b3.size) (fun k hk => ((own_below z2 b3).lt k hk).1)
          obtain ⟨yyA, yyn, yyc, rfl⟩ : ∃ A n c, y = .slice A n c := by obtain ⟨A, c, e⟩ := own_form' oy; exact ⟨A, _, c, e⟩
          obtain ⟨vA, vn, vc, rfl⟩ : ∃ A n c, v = .slice A n c := by obtain ⟨A, c, e⟩ := own_form' o3; exact ⟨A, _, c, e⟩
          have AL : ∀ d, d ≤ 6 → Below w.heap.size w (wtO wr p o.ty (.slice yyA yyn yyc) (.slice vA vn vc) W2 W4 d) ∧ Bx (wtO wr p o.ty (.slice yyA yyn yyc) (.slice vA vn vc) W2 W4 d) w.heap.size 26 #[tv, ov, sv] := by
            intro d hd
            rcases d with _ | _ | _ | _ | _ | _ | d
            · exact ⟨B.drew, q1⟩
            · exact ⟨B.trans (b1.mono hB), q1.below b1⟩
            · exact ⟨B.trans (b2.mono hB), q1.below b2⟩
            · exact ⟨B.trans (b2.mono hB), q1.below b2⟩
            · exact ⟨B.trans (b3.mono hB), q1.below b3⟩
            · exact ⟨B4, MM.out.2.2.2.2.2.2.2.2.1⟩
            · exact ⟨MM.out.2.2.2.2.2.2.2.1, MM.out.2.2.1⟩
          have ca := fun x : FXN (FL [8, 15, 16, 17, 18, 20] (wtO wr p o.ty (.slice yyA yyn yyc) (.slice vA vn vc) W2 W4) 1 4) => (FL.all (ks := [8, 15, 16, 17, 18, 20]) (Ws := wtO wr p o.ty (.slice yyA yyn yyc) (.slice vA vn vc) W2 W4) (p := fun W => Below w.heap.size w W ∧ Bx W w.heap.size 26 #[tv, ov, sv]) AL x).2.cell
          have cb := fun y : FXN (FL [8, 15, 16, 17, 18, 20] (wtO wr p o.ty (.slice yyA yyn yyc) (.slice vA vn vc) W2 W4) 1 4) => cell_later (FL.all (ks := [8, 15, 16, 17, 18, 20]) (Ws := wtO wr p o.ty (.slice yyA yyn yyc) (.slice vA vn vc) W2 W4) (p := fun W => Below w.heap.size w W ∧ Bx W w.heap.size 26 #[tv, ov, sv]) AL y).1 m0
          have cc := fun y : FXN (FL [8, 15, 16, 17, 18, 20] (wtO wr p o.ty (.slice yyA yyn yyc) (.slice vA vn vc) W2 W4) 1 4) => cell_later (FL.all (ks := [8, 15, 16, 17, 18, 20]) (Ws := wtO wr p o.ty (.slice yyA yyn yyc) (.slice vA vn vc) W2 W4) (p := fun W => Below w.heap.size w W ∧ Bx W w.heap.size 26 #[tv, ov, sv]) AL y).1 m1
          have p0 := q3.cell 1; have p1 := (q3.below b1).cell 1; have p2 := (q3.below b2).cell 1; have p3 := (q3.below b3).cell 1
          haveI : Nonempty (FXN (FL [8, 15, 16, 17, 18, 20] (wtO wr p o.ty (.slice yyA yyn yyc) (.slice vA vn vc) W2 W4) 1 4)) := ⟨⟨_, _, FL.start⟩⟩
          clear c1
          refine wp_region_N (FL [8, 15, 16, 17, 18, 20] (wtO wr p o.ty (.slice yyA yyn yyc) (.slice vA vn vc) W2 W4) 1 4) [1, 8, 15, 16, 17, 18, 20] FL.dep (by kernel_rfl) (by kernel_rfl) (by kernel_rfl) FL.start ?_
          refine wpN_read FL.dep rfl (by decide) ?_; go_big_quiet_step (fail); refine wpQuiet_nil ?_
          refine wpN_step FL.dep rfl (by rfl) (v := ot) [] rfl (fun f W hF h0 _ => ?_) ?_
          · obtain ⟨⟨d, hd, hd2, rfl⟩, hF'⟩ := FL.read (by decide) hF h0
            refine ⟨_, ?_, hF'⟩
            have hc : (wtO wr p o.ty (.slice yyA yyn yyc) (.slice vA vn vc) W2 W4 d).cell? ⟨p, 1, none⟩ = some ot := by
              rcases d with _ | _ | _ | _ | _ | d
              · exact p0
              · exact p1
              · exact p2
              · exact p2
              · exact p3
              · omega
            simp [execOp, go_sem, hc]
          simp only [Act.put, List.setIfInBounds_toArray, List.set_cons_zero, List.set_cons_succ]
          iterate 6 (refine wpN_read FL.dep rfl (by decide) ?_; go_big_quiet_step (fail); refine wpQuiet_nil ?_)
          refine wpN_step FL.dep rfl (by rfl) (v := .slice (some ⟨wr.heap.size, 0, none⟩) 0 0) [] (by kernel_rfl) (fun f W hF h0 h1 => ?_) ?_
          · obtain ⟨rfl, h2⟩ := FL.step (i := 0) rfl (by decide) hF h0 (by intro p hp; omega) (by omega)
            exact ⟨_, by simp [execOp, wtO, r1], h2⟩
          simp only [Act.put, List.setIfInBounds_toArray, List.set_cons_zero, List.set_cons_succ]
          iterate 6 (refine wpN_read FL.dep rfl (by decide) ?_; go_big_quiet_step (fail); refine wpQuiet_nil ?_)
          refine wpN_step FL.dep rfl (by rfl) (v := .slice yyA yyn yyc) [8] (by kernel_rfl) (fun f W hF h0 h1 => ?_) ?_
          · obtain ⟨rfl, h2⟩ := FL.step (i := 1) rfl (by decide) hF h0 (FL.prev (p := 0) (q := 8) rfl (h1 8 (by simp))) (by omega)
            exact ⟨_, by simp [execOp, resolve, invoke, builtin, Act.eval, wtO, r2], h2⟩
          simp only [Act.put, List.setIfInBounds_toArray, List.set_cons_zero, List.set_cons_succ]
          refine wpN_step FL.dep rfl (by rfl) (v := .agg #[i64 o.ty, .slice yyA yyn yyc]) [15] (by kernel_rfl) (fun f W hF h0 h1 => ?_) ?_
          · obtain ⟨rfl, h2⟩ := FL.step (i := 2) rfl (by decide) hF h0 (FL.prev (p := 1) (q := 15) rfl (h1 15 (by simp))) (by omega)
            exact ⟨_, by simp [execOp, go_sem, wtO, i64], h2⟩
          simp only [Act.put, List.setIfInBounds_toArray, List.set_cons_zero, List.set_cons_succ]
          refine wpN_step FL.dep rfl (by rfl) (v := .slice (some ⟨W2.heap.size, 0, none⟩) 1 1) [16] (by kernel_rfl) (fun f W hF h0 h1 => ?_) ?_
          · obtain ⟨rfl, h2⟩ := FL.step (i := 3) rfl (by decide) hF h0 (FL.prev (p := 2) (q := 16) rfl (h1 16 (by simp))) (by omega)
            exact ⟨_, by simp [execOp, go_sem, wtO, i64], h2⟩
          simp only [Act.put, List.setIfInBounds_toArray, List.set_cons_zero, List.set_cons_succ]
          refine wpN_step FL.dep rfl (by rfl) (v := .slice vA vn vc) [17, 1] (by kernel_rfl) (fun f W hF h0 h1 => ?_) ?_
          · obtain ⟨rfl, h2⟩ := FL.step (i := 4) rfl (by decide) hF h0 (FL.prev (p := 3) (q := 17) rfl (h1 17 (by simp))) (fun _ => h1 1 (by simp))
            exact ⟨_, by simp [execOp, resolve, invoke, builtin, Act.eval, wtO, r3], h2⟩
          simp only [Act.put, List.setIfInBounds_toArray, List.set_cons_zero, List.set_cons_succ]
          refine wpN_read FL.dep rfl (by decide) ?_; go_big_quiet_step (fail); refine wpQuiet_nil ?_
          refine wpN_storeD FL.dep rfl 23 (.tmp 51) (.tmp 50) rfl (by rfl) (p := .pointer (some ⟨p, 1, none⟩)) (u := .slice vA vn vc) (by rfl) (by rfl) [18] (by kernel_rfl) (fun f W hF h0 h1 => ?_) ?_
          · obtain ⟨rfl, h2⟩ := FL.step (i := 5) rfl (by decide) hF h0 (FL.prev (p := 4) (q := 18) rfl (h1 18 (by simp))) (by omega)
            refine ⟨_, ?_, h2⟩
            have hc := MM.out.1.1; have hf := MM.out.1.2
            simp [go_sem, wtO, hc, hf]
          show ∀ w', _ → _
          intro w' hw'
          obtain rfl := FL.done hw'
          have HM := Lib.hid (MM.out.2)
          clear this MM q1 q2 q3 oS0 oT B z1 z2 z4 z5 hw' r1 r2 r3 oy b1 b2 b3 p0 p1 p2 p3 AL ca cb cc B4 o2 o3 gr2 gr3 m0 m1 hxx hlt0
          go_wp2
          go_roundg (NO - (k + 1))
          case measure => omega
          case rel =>
            obtain ⟨k1, k2, k3, k4, k5, _, k7, _⟩ := HM.out
            refine ⟨k + 1, by omega, rfl, by go_num, Lib.hid ⟨_, ?_, k2, k3, k4, k5, k7⟩⟩
            rwa [List.take_add_one, HT.out.out]
        · obtain rfl : k = NO := by omega
          obtain ⟨ot, oO, q1, q2, q3, oT, B⟩ := hh.out
          rw [List.take_of_length_le (by have := HNO.out; omega)] at oO
          obtain ⟨oA, on, oc, rfl⟩ : ∃ A n c, ot = .slice A n c := by obtain ⟨vs, _, z2, _⟩ := oO; obtain ⟨A, c, e⟩ := own_form' z2; exact ⟨A, _, c, e⟩
          obtain ⟨xA, xn, xc, rfl⟩ : ∃ A n c, xt = .slice A n c := by obtain ⟨vs, _, z2, _⟩ := oT; obtain ⟨A, c, e⟩ := own_form' z2; exact ⟨A, _, c, e⟩
          have hsv := (H.out.s.below B)
          have hln := S3.out
          have c1 := q1.cell
          have HQ := Lib.hid (And.intro q1 (And.intro q2 (And.intro q3 (And.intro oT (And.intro oO B)))))
          have HS := Lib.hid hsv
          have a1 := fun o => (q1.alloc o).cell
          have hzB := B.size
          clear hh q1 q2 q3 oT oO B hsv
          go_wp2_with (at_builtin; refine wpList_append (by rfl) rfl rfl rfl Try.underlying24 info_slot rfl (by omega) (by exact lit0_own (B := wr.heap.size) (Nat.le_refl _)) (by exact HS.out.alloc _) (by exact tabL_one _) (by omega) (by omega) (by exact (Below.refl _ wr).alloc (Nat.le_refl _) _) (Nat.le_refl _) ?_; intro v1 w3 o3 B3 g3; obtain ⟨sA, sn, sc, rfl⟩ : ∃ A n c, v1 = .slice A n c := by { obtain ⟨A, c, e⟩ := own_form' o3; exact ⟨A, _, c, e⟩ }; clear g3; have c2 := (HQ.out.2.1.below B3).cell; have f2 := (HQ.out.2.1.below B3).free; have c3 := (HQ.out.2.2.1.below B3).cell; have f3 := (HQ.out.2.2.1.below B3).free)
          refine bodyPost_ret (v := .agg #[.slice xA xn xc, .slice oA on oc, .slice sA sn sc]) (by simp [results, Try.results13, go_sem, c2, c3, f2, f3]) rfl ?_
          obtain ⟨q1, q2, q3, oT, oO, B⟩ := HQ.out
          have oS : OwnS w3 w.heap.size 48 (.slice sA sn sc) m.slots := by
            have := own_mono o3 hzB
            unfold OwnS; simpa using this
          have hM : OwnM w3 w.heap.size 48 (.slice xA xn xc) (.slice oA on oc) (.slice sA sn sc) m := ⟨oT.below B3, oO.below B3, oS⟩
          have q2' := (q2.below B3).far (p := ⟨p, 2, none⟩) (by show w.heap.size + 1 ≠ p; omega) (.slice sA sn sc)
          refine ⟨_, _, _, rfl, OwnM.set3 (hM.set (q3.below B3)) q2', ?_⟩
          have B5 := (B.trans (B3.mono hzB)).setCell (p := ⟨p, 2, none⟩) (by show w.heap.size ≤ p; omega) (.slice sA sn sc)
          exact ((B5.setCell (p := ⟨w.heap.size + 1, 0, none⟩) (by simp) _).setCell (p := ⟨w.heap.size + 1, 1, none⟩) (by simp) _).setCell (p := ⟨w.heap.size + 1, 2, none⟩) (by simp) _
end Go.Proofs.Yteejianjjpdimaa
namespace Go.Proofs.Yteejianjjpdimaa
open Go.RowKit L02 L13 L18 L20
end Go.Proofs.Yteejianjjpdimaa
namespace Go.Proofs.Yteejianjjpdimaa
open Go.RowKit L02 L13 L18 L20
end Go.Proofs.Yteejianjjpdimaa
