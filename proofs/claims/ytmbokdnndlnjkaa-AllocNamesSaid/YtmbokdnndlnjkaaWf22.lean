/- The walk of the law AllocNames. -/
import Derived.Test.YtmbokdnndlnjkaaMAs
set_option linter.unusedVariables false
set_option linter.unusedSimpArgs false
namespace Go.Proofs.Ytmbokdnndlnjkaa
open Go.RowKit L01 L02 L05 L06 L07 L13 L14 L15 L16 L18 L19 L20

theorem enter_laid (a b : Value) (W : World) : (callFunc 24 (#[] ++ #[a, b] ++ #[])).run Try.prog W = .ok (.enter 24 #[a, b]) W := by
  kernel_rfl
theorem Change_err (v : Value) (l : List UInt64) (ti r : Int) (hr : r = aiE l ti) (h0 : r ≠ 0) (w : World) (h : Words w v l) :
    Calls Try.prog 22 #[v, .int .i64 ti] w fun e w' => ∃ y, e = .returned (.tuple #[y, .agg #[.int .i64 0, .int .i64 0], .int .i64 r]) ∧ Below w.heap.size w w' := by
  have hs1 : aiS l ti = 0 := by rw [aiS, if_neg (by rw [← hr]; exact h0)]
  have hs2 : aiG l ti = 0 := by rw [aiG, if_neg (by rw [← hr]; exact h0)]
  refine (Change_any v l ti _ 0 0 r rfl hs1.symm hs2.symm hr w h).mono ?_
  rintro e w' ⟨y, h1, _, h2⟩
  exact ⟨y, h1, h2⟩

set_option maxRecDepth 100000 in
set_option maxHeartbeats 16000000 in
theorem AllocNames_walk (w : World) : Calls Try.prog 4 #[] w fun e w' => e = .returned (.bool true) ∧ Below w.heap.size w w' := by
  have B : Below w.heap.size w w := Below.refl _ _
  have AL := Lib.hid alive22_any
  have EX := Lib.hid (fun w => example22_any w)
  obtain ⟨l0, hl0⟩ : ∃ l, l = ex22 := ⟨_, rfl⟩
  obtain ⟨l5, hl5⟩ : ∃ l, l = l0.take 255 := ⟨_, rfl⟩
  obtain ⟨lz, hlz⟩ : ∃ l, l = List.replicate 256 (0 : UInt64) := ⟨_, rfl⟩
  obtain ⟨lf, hlf⟩ : ∃ l, l = anF := ⟨_, rfl⟩
  obtain ⟨lx, hlx⟩ : ∃ l, l = anX := ⟨_, rfl⟩
  obtain ⟨ly, hly⟩ : ∃ l, l = anY := ⟨_, rfl⟩
  obtain ⟨la, hla⟩ : ∃ l, l = laid 256 anL := ⟨_, rfl⟩
  obtain ⟨e1, e2, e3, e4⟩ := ex22_errs
  obtain ⟨n1, n2⟩ := an_ok
  obtain ⟨f1, f2, f3⟩ := anF_ok
  have fx := anX_err
  have fy := anY_err
  obtain ⟨z1, z2, z3⟩ := anF_len
  have z0 := ex22_len
  have hI0 : anI 0 = l0 := by rw [hl0]; rfl
  have hFd : lf = putW l0 128 (la.drop 128) := by rw [hlf, hl0, hla]; rfl
  have hXd : lx = made lf (aiL lf 0) := by rw [hlx, hlf]; rfl
  have hYd : ly = anS lx 16 := by rw [hly, hlx]; rfl
  have hal : la.length = 256 := by rw [hla]; exact laid_len _ _
  have hok : ∀ b ∈ anL, BkOk b := by decide +kernel
  rw [← hl0] at EX e1 e2 e3 z0
  rw [← hl5] at e3
  rw [← hlz] at e4
  rw [← hlf] at f1 f2 f3 z1
  rw [← hlx] at fx z2
  rw [← hly] at fy z3
  obtain ⟨EF, hEF⟩ : ∃ E, E = aiL lf 0 := ⟨_, rfl⟩
  obtain ⟨s1, hs1⟩ : ∃ s, s = aiS lf 0 := ⟨_, rfl⟩
  obtain ⟨s2, hs2⟩ : ∃ s, s = aiG lf 0 := ⟨_, rfl⟩
  rw [← hEF] at f2 f3 hXd
  obtain ⟨pkv, hpk⟩ : ∃ x, x = pk ⟨1, true, 128⟩ := ⟨_, rfl⟩
  have C1 := Lib.hid (fun v w h => Change_err v l0 1 2 e1.symm (by decide) w h)
  have C2 := Lib.hid (fun v w h => Change_err v l0 (-1) 2 e2.symm (by decide) w h)
  have C3 := Lib.hid (fun v w h => Change_err v l5 0 8 e3.symm (by decide) w h)
  have C4 := Lib.hid (fun v w h => Change_err v lz 9 50 e4.symm (by decide) w h)
  have C5 := Lib.hid (fun v w h => Change_err v (anI 16) 0 23 n2.symm (by decide) w h)
  have CF := Lib.hid (fun v w h => Change_any v lf 0 EF s1 s2 0 hEF hs1 hs2 f1.symm w h)
  have MF := Lib.hid (fun v ev w h he => Made_any v ev lf EF (by rw [z1]; decide) w h he)
  have CX := Lib.hid (fun v w h => Change_err v lx 0 20 fx.symm (by decide) w h)
  have CY := Lib.hid (fun v w h => Change_err v ly 0 23 fy.symm (by decide) w h)
  have LT := Lib.hid (fun v w h => LaidR_any 256 v anL hok (by decide) (by omega) w h)
  have OF := Lib.hid (fun w => OfR_any ⟨1, true, 128⟩ pkv hpk (by decide) w)
  have AN := Lib.hid n1
  have HI0 := Lib.hid hI0; have HFD := Lib.hid hFd; have HYD := Lib.hid hYd
  rw [← hXd] at MF
  rw [← hla] at LT
  have H5 := Lib.hid hl5.symm; have HZ := Lib.hid hlz; have HL0 := Lib.hid z0; have HLA := Lib.hid hal
  have HE5 := Lib.hid f2; have HE1 := Lib.hid f3; have HX := Lib.hid z2; have HPK := Lib.hid hpk
  clear hl0 hl5 hlz hlf hlx hly hla e1 e2 e3 e4 n1 n2 f1 f2 f3 fx fy z0 z1 z2 z3 hI0 hFd hXd hYd hal hok hEF hs1 hs2 hpk
  go_enter Try.func4, Try.ntmps4
  go_wp2_with fail
  refine (EX.out _).mono ?_
  rintro e wa1 ⟨x0, rfl, o0, b⟩
  replace B := B.trans (b.mono B.size); clear b
  have r0 := o0.rd
  clear o0
  go_wp2_with fail
  refine (C1.out _ _ r0).mono ?_
  rintro e wa2 ⟨y1, rfl, b⟩
  replace r0 := r0.below b; replace B := B.trans (b.mono B.size); clear b
  go_upto_region 3 with (fail)
  refine wp_gen (fun Wv => Below wa2.heap.size wa2 Wv) ((Below.refl _ wa2).alloc (by simp <;> omega) _) ?_
  intro wa3 b
  replace r0 := r0.below b; replace B := B.trans (b.mono B.size); clear b
  go_wp2_with fail
  refine (C2.out _ _ r0).mono ?_
  rintro e wa4 ⟨y2, rfl, b⟩
  replace r0 := r0.below b; replace B := B.trans (b.mono B.size); clear b
  go_upto_region 4 with (fail)
  refine wp_gen (fun Wv => Below wa4.heap.size wa4 Wv) ((Below.refl _ wa4).alloc (by simp <;> omega) _) ?_
  intro wa5 b
  replace r0 := r0.below b; replace B := B.trans (b.mono B.size); clear b
  obtain ⟨xc, ic, rc⟩ := Words.cutTo (P := Try.prog) r0 Try.underlying22 one_u64 (hi := 255) (by omega) (by rw [HL0.out]; omega)
  have ic' : ∀ W, (Instr.sliceAt 22 x0 none (some (.int .i64 255)) none).run Try.prog W = .ok xc W := ic
  replace rc : Words wa5 xc (l0.take 255) := rc
  rw [H5.out] at rc
  clear ic
  go_wp2_with fail
  refine (C3.out _ _ rc).mono ?_
  rintro e wa6 ⟨y3, rfl, b⟩
  replace r0 := r0.below b; replace rc := rc.below b; replace B := B.trans (b.mono B.size); clear b
  clear ic' rc
  go_upto_region 5 with (fail)
  refine wp_gen (fun Wv => Below wa6.heap.size wa6 Wv) ((Below.refl _ wa6).alloc (by simp <;> omega) _) ?_
  intro wa7 b
  replace r0 := r0.below b; replace B := B.trans (b.mono B.size); clear b
  go_wp2_with (at_make; refine wpList_makeI (by rfl) rfl rfl rfl Try.underlying22 info_u64 rfl (by omega) (by omega) (by omega) (Below.refl wa7.heap.size wa7) (Nat.le_refl _) ?_; intro v1 w1 o1 B1 b1)
  have r1 : Words w1 v1 lz := by
    rw [HZ.out]
    exact OwnW.rd (OwnW.of o1 (by rw [List.map_replicate]; rfl))
  replace r0 := r0.below b1
  replace B := B.trans (b1.mono B.size)
  clear o1 B1 b1
  refine (C4.out _ w1 r1).mono ?_
  rintro e w2 ⟨y4, rfl, b⟩
  replace r0 := r0.below b
  replace B := B.trans (b.mono B.size)
  clear r1 b
  go_upto_region 6 with (fail)
  refine wp_gen (fun Wv => Below w2.heap.size w2 Wv) ((Below.refl _ w2).alloc (by simp <;> omega) _) ?_
  intro wa8 b
  replace r0 := r0.below b; replace B := B.trans (b.mono B.size); clear b
  have HQ := Lib.hid (And.intro r0 B)
  clear r0 B
  go_wp2
  go_loopg [1, 14] 16 (fun g xv i wr => ∃ j : Nat, j ≤ 16 ∧ g = 16 - j ∧ i = .int .i64 j ∧ Hid (Words wr xv (anI j) ∧ Below w.heap.size w wr))
  case atStart => exact ⟨0, by omega, by omega, rfl, Lib.hid ⟨by rw [HI0.out]; exact HQ.out.1, HQ.out.2⟩⟩
  case round =>
    obtain ⟨j, hj, rfl, rfl, hh⟩ := hrel
    clear HQ
    by_cases hlt : j < 16
    · obtain ⟨r1, B⟩ := hh.out
      obtain ⟨E, hE⟩ : ∃ E, E = aiL (anI j) 0 := ⟨_, rfl⟩
      obtain ⟨q1, q2, q3, q4, q5⟩ := AN.out j hlt
      rw [← hE] at q4 q5
      have CJ := Lib.hid (fun v w h => Change_any v (anI j) 0 E (j : Int) 1 0 hE q2.symm q3.symm q1.symm w h)
      have HEJ := Lib.hid q5
      have HEL := Lib.hid q4
      have MJ := Lib.hid (fun v ev w h he => Made_any v ev (anI j) E (by rw [anI_len]; omega) w h he)
      have hmj : made (anI j) E = anI (j + 1) := by rw [hE]; rfl
      rw [hmj] at MJ
      clear hE q1 q2 q3 q4 q5 hmj hh
      go_wp2_with fail
      refine (CJ.out _ _ r1).mono ?_
      rintro e wa9 ⟨y, rfl, o1, b⟩
      replace r1 := r1.below b; replace B := B.trans (b.mono B.size); clear b
      have qe := o1.rd
      clear o1
      go_upto_region 10 with (fail)
      refine wp_gen (fun Wv => Bx Wv (wa9.heap.size) (35) (#[.int .i64 (j : Int), .int .i64 1]) ∧ Below wa9.heap.size wa9 Wv) ⟨((Bx.at_ (by simp))), ((Below.refl _ wa9).alloc (by simp <;> omega) _)⟩ ?_
      rintro wa10 ⟨g1, b⟩
      replace r1 := r1.below b; replace qe := qe.below b; replace B := B.trans (b.mono B.size); clear b
      have c_g1 := g1.cell; have f_g1 := g1.free; have a_g1 := fun o => (g1.alloc o).cell; have d_g1 := fun o o2 => ((g1.alloc o).alloc o2).cell; have e_g1 := fun o => (g1.alloc o).free
      obtain ⟨b1, o1, a1, x1, i1, m1, k1, h1⟩ := qe.at_ (k := 1) (by rw [HEL.out]; omega)
      obtain rfl : a1 = 128 + 4 * (j : Int) := by have h2 := HEJ.out; rw [List.getElem?_map, h1.out] at h2; injection h2
      have i1' : ∀ W, (Instr.indexAt 30 y (.int .i64 1)).run Try.prog W = .ok (.pointer (some ⟨b1, o1, none⟩)) W := i1
      have le := Rd.len qe Try.underlying30
      rw [HEL.out] at le
      have le' : ∀ ty W, (Builtin.len_ #[30] ty #[y]).run Try.prog W = .ok (.int .i64 6) W := le
      have nq : ∀ W, (binOp .neq 35 (.agg #[.int .i64 (j : Int), .int .i64 1]) (.agg #[.int .i64 (j : Int), .int .i64 1])).run Try.prog W = .ok (.bool false) W := fun W => by simp [go_sem]
      have w4 : IntKind.i64.wrap (4 * (j : Int)) = 4 * (j : Int) := IntWalk.i64_in _ (by omega)
      have w5 : IntKind.i64.wrap (128 + 4 * (j : Int)) = 128 + 4 * (j : Int) := IntWalk.i64_in _ (by omega)
      clear i1 k1 h1 le
      go_wp2_with fail
      refine (MJ.out _ _ _ r1 qe).mono ?_
      rintro e wa11 ⟨z, rfl, oz, b⟩
      replace r1 := r1.below b; replace qe := qe.below b; try clear c_g1 f_g1 a_g1 d_g1 e_g1
      replace g1 := g1.below b; have c_g1 := g1.cell; have f_g1 := g1.free; have a_g1 := fun o => (g1.alloc o).cell; have d_g1 := fun o o2 => ((g1.alloc o).alloc o2).cell; have e_g1 := fun o => (g1.alloc o).free; replace m1 := cell_later b m1; replace B := B.trans (b.mono B.size); clear b
      have HR := Lib.hid (And.intro oz.rd B)
      clear oz r1 qe g1 c_g1 f_g1 a_g1 d_g1 e_g1 m1 B i1' le' nq
      go_wp2
      go_roundg (16 - (j + 1))
      case measure => omega
      case rel => exact ⟨j + 1, by omega, rfl, by go_num, HR⟩
    · obtain rfl : j = 16 := by omega
      obtain ⟨r1, B⟩ := hh.out
      clear hh hlt hj
      go_wp2_with fail
      refine (C5.out _ _ r1).mono ?_
      rintro e wa12 ⟨y5, rfl, b⟩
      replace r1 := r1.below b; replace B := B.trans (b.mono B.size); clear b
      clear r1
      go_upto_region 14 with (fail)
      refine wp_gen (fun Wv => Below wa12.heap.size wa12 Wv) ((Below.refl _ wa12).alloc (by simp <;> omega) _) ?_
      intro wa13 b
      replace B := B.trans (b.mono B.size); clear b
      have hz := B.size
      go_wp2_with fail
      refine (EX.out _).mono ?_
      rintro e wa14 ⟨xf, rfl, of0, b⟩
      replace B := B.trans (b.mono B.size); clear b
      have of1 : OwnW wa14 w.heap.size 24 xf l0 := own_mono of0 hz
      have hz2 := B.size
      have HQ := Lib.hid (And.intro of1 B)
      clear of0 of1 B hz
      generalize wa14 = wb at *
      go_wp2
      go_loopg [22, 23] 31 (fun g xv i wr' => ∃ j : Nat, j ≤ 31 ∧ g = 31 - j ∧ i = .int .i64 j ∧ Hid (OwnK wr' wb.heap.size xv (List.replicate j (objB 0 4 false)) ∧ Below wb.heap.size wb wr'))
      case atStart => exact ⟨0, by omega, by omega, rfl, Lib.hid ⟨OwnK.nil _ _, Below.refl _ _⟩⟩
      case round =>
        obtain ⟨j, hj, rfl, rfl, hh⟩ := hrel
        obtain ⟨o1, B2⟩ := hh.out
        have HO := Lib.hid o1
        have HB2 := Lib.hid B2
        have hsz := B2.size
        clear o1 B2 hh
        by_cases hlt : j < 31
        · go_wp2_with (at_builtin; refine wpList_append (by rfl) rfl rfl rfl Try.underlying52 info_block rfl (by omega) (by exact own_below HO.out ((Below.refl _ _).alloc (Nat.le_refl _) _)) (by exact lit_block (objB 0 4 false) (by simp)) (bkL_one (objB 0 4 false)) (by simp; omega) (by simp; omega) (by exact HB2.out.alloc HB2.out.size _) (Nat.le_refl _) ?_; intro v1 w3 o3 B3 g3)
          have o4 : OwnK w3 wb.heap.size v1 (List.replicate (j + 1) (objB 0 4 false)) := by rw [List.replicate_succ']; exact OwnK.of o3 (tabB_snoc _ _)
          have HR := Lib.hid (And.intro o4 B3)
          clear o3 o4 B3 g3
          go_roundg (31 - (j + 1))
          case measure => omega
          case rel => exact ⟨j + 1, by omega, rfl, by go_num, HR⟩
        · obtain rfl : j = 31 := by omega
          go_wp2_with (at_builtin; refine wpList_append (by rfl) rfl rfl rfl Try.underlying52 info_block rfl (by omega) (by exact own_below HO.out ((Below.refl _ _).alloc (Nat.le_refl _) _)) (by exact lit_block (freeB 4) (by simp)) (bkL_one (freeB 4)) (by simp) (by simp) (by exact HB2.out.alloc HB2.out.size _) (Nat.le_refl _) ?_; intro vb w3 o3 B3 g3)
          have rb : Blks w3 vb anL := OwnK.rd (OwnK.of o3 (tabB_snoc _ _))
          have of1 := HQ.out.1.below B3
          have B := HQ.out.2.trans (B3.mono hz2)
          have hz3 := B.size
          clear HQ o3 B3 g3 HO HB2
          obtain ⟨d1, sl1, cut1⟩ := own_cutFrom (P := Try.prog) of1 Try.underlying22 one_u64 (lo := 128) (by omega) (by rw [HL0.out]; omega)
          have sl1' : ∀ W, (Instr.sliceAt 22 xf (some (.int .i64 128)) none none).run Try.prog W = .ok d1 W := sl1
          clear sl1
          go_upto_region 21 with (fail)
          refine wp_region_f1 5 3 (fun v => ∃ sv, ∀ W, (Instr.sliceAt 22 v (some (.int .i64 128)) none none).run Try.prog W = .ok sv W) (fun v W => ∃ sv, (∀ W, (Instr.sliceAt 22 v (some (.int .i64 128)) none none).run Try.prog W = .ok sv W) ∧ Words W sv (la.drop 128)) ?_ (fun v W W' ⟨sv, h1, h2⟩ b => ⟨sv, h1, h2.below b⟩) (by kernel_rfl) (by kernel_rfl) (by kernel_rfl) ?_
          · obtain ⟨e, w9, _, ⟨x, _, ox, _⟩, _⟩ := LT.out vb w3 rb []
            obtain ⟨sv, h1, _⟩ := Words.cutFrom (P := Try.prog) ox.rd Try.underlying22 one_u64 (lo := 128) (by omega) (by rw [HLA.out]; omega)
            exact ⟨x, sv, h1⟩
          intro gg hv1
          obtain ⟨sv, hsv⟩ := hv1
          simp only [List.take_succ_cons, List.take_zero, List.drop_succ_cons, List.drop_zero]
          iterate 3 (refine wpH_read0 rfl rfl ?_; go_big_quiet_step (fail); refine wpQuiet_nil ?_)
          refine wpH_new rfl rfl (TS.call (av := #[.int .i64 256, vb]) (by simp [Act.eval]) (fun W => enter_laid _ _ W) ?_) ?_
          · intro W hW _
            refine (LT.out _ W (rb.below hW)).mono ?_
            rintro e W' ⟨x, rfl, ox, bb⟩
            obtain ⟨sv2, h1, h2⟩ := Words.cutFrom (P := Try.prog) ox.rd Try.underlying22 one_u64 (lo := 128) (by omega) (by rw [HLA.out]; omega)
            exact ⟨_, rfl, fun _ => ⟨sv2, h1⟩, bb, fun g' hg' _ => fun _ => ⟨sv2, by rw [hg']; exact h1, h2⟩⟩
          simp only [Act.put, List.setIfInBounds_toArray, List.set_cons_zero, List.set_cons_succ]
          refine wpH_pure rfl rfl (v := sv) (fun W => by simp [execOp, resolve, invoke, builtin, Act.eval, go_sem, hsv]) ?_
          simp only [Act.put, List.setIfInBounds_toArray, List.set_cons_zero, List.set_cons_succ]
          refine wpH_nil ?_
          intro W2 bW o1
          obtain ⟨sv2, h1, rs⟩ := o1
          obtain rfl : sv2 = sv := by have a1 := h1 W2; rw [hsv W2] at a1; injection a1 with a1; exact a1.symm
          have of2 := of1.below bW
          have B2 := B.trans (bW.mono hz3)
          obtain ⟨w5, x5, hrun, o5, B5, g5⟩ := copyW (l := l0) (m := la.drop 128) (a := 128) of2 (by rw [HL0.out] at cut1; exact cut1) rs (by rw [List.length_drop, HLA.out]; rfl) (by rw [HL0.out]; decide) B2 (Nat.le_refl _)
          clear h1 rs of1 of2 B B2 bW hz3 cut1 rb hsv
          go_wp2_with fail
          rw [← HFD.out] at o5
          have rf := o5.rd
          have B := B5
          clear hrun o5 B5 g5 sl1'
          go_wp2_with fail
          refine (CF.out _ _ rf).mono ?_
          rintro e wa15 ⟨yf, rfl, of, b⟩
          replace rf := rf.below b; replace B := B.trans (b.mono B.size); clear b
          have qf := of.rd
          clear of
          go_upto_region 23 with (fail)
          refine wp_gen (fun Wv => Below wa15.heap.size wa15 Wv) ((Below.refl _ wa15).alloc (by simp <;> omega) _) ?_
          intro wa16 b
          replace rf := rf.below b; replace qf := qf.below b; replace B := B.trans (b.mono B.size); clear b
          go_wp2_with fail
          refine (MF.out _ _ _ rf qf).mono ?_
          rintro e w6 ⟨xx, rfl, ox, b6⟩
          have HQF := Lib.hid (And.intro qf B)
          clear rf qf B
          go_wp2_with fail
          refine (CX.out _ w6 ox.rd).mono ?_
          rintro e w7 ⟨y6, rfl, b⟩
          replace ox := ox.below b
          have B := b6.trans (b.mono b6.size)
          clear b b6
          go_upto_region 25 with (fail)
          refine wp_gen (fun Wv => Below w7.heap.size w7 Wv) ((Below.refl _ w7).alloc (by simp <;> omega) _) ?_
          intro wa17 b
          replace ox := ox.below b; replace B := B.trans (b.mono B.size); clear b
          have HQ := Lib.hid (And.intro ox B)
          clear ox B
          go_wp2
          go_loopg [31] 16 (fun g i wr' => ∃ j : Nat, j ≤ 16 ∧ g = 16 - j ∧ i = .int .i64 j ∧ Hid (OwnW wr' wa16.heap.size 24 xx (anS lx j) ∧ Below wa16.heap.size wa16 wr'))
          case atStart => exact ⟨0, by omega, by omega, rfl, HQ⟩
          case round =>
            clear HQ
            obtain ⟨j, hj, rfl, rfl, hh⟩ := hrel
            obtain ⟨ox, B⟩ := hh.out
            clear hh
            by_cases hlt : j < 16
            · skip
              go_wp2_with fail
              refine (OF.out _).mono ?_
              rintro e wa18 ⟨rfl, b⟩
              replace ox := ox.below b; replace B := B.trans (b.mono B.size); clear b
              have hlen : (anS lx j).length = 256 := by rw [anS_len, HX.out]
              obtain ⟨ad, u0, ia, ca, fa, hb, -, hset⟩ := own_at (P := Try.prog) ox Try.underlying22 one_u64 (k := 112 + (j : Int)) (by omega) (by rw [hlen]; omega)
              have wj : IntKind.i64.wrap (112 + (j : Int)) = 112 + (j : Int) := IntWalk.i64_in _ (by omega)
              have HR := Lib.hid (And.intro (OwnW.set (hset (.int .u64 pkv.toNat))) (B.setCell (p := ad) hb (.int .u64 pkv.toNat)))
              have hst : (anS lx j).set (112 + (j : Int)).toNat pkv = anS lx (j + 1) := by rw [show (112 + (j : Int)).toNat = 112 + j by omega, HPK.out]; rfl
              rw [hst] at HR
              clear ox B hset hb hlen hst
              go_wp2
              go_roundg (16 - (j + 1))
              case measure => omega
              case rel => exact ⟨j + 1, by omega, rfl, by go_num, HR⟩
            · obtain rfl : j = 16 := by omega
              rw [← HYD.out] at ox
              have ry := ox.rd
              have qf := HQF.out.1.below B
              replace B := HQF.out.2.trans (B.mono HQF.out.2.size)
              obtain ⟨b1, o1, a1, x1, i1, m1, k1, h1⟩ := qf.at_ (k := 1) (by rw [HE5.out]; omega)
              obtain rfl : a1 = 252 := by have h2 := HE1.out; rw [List.getElem?_map, h1.out] at h2; injection h2
              have i1' : ∀ W, (Instr.indexAt 30 yf (.int .i64 1)).run Try.prog W = .ok (.pointer (some ⟨b1, o1, none⟩)) W := i1
              have le := Rd.len qf Try.underlying30
              rw [HE5.out] at le
              have le' : ∀ ty W, (Builtin.len_ #[30] ty #[yf]).run Try.prog W = .ok (.int .i64 5) W := le
              clear i1 k1 h1 le ox qf
              go_wp2_with fail
              refine (CY.out _ _ ry).mono ?_
              rintro e wa19 ⟨y7, rfl, b⟩
              replace ry := ry.below b; replace m1 := cell_later b m1; replace B := B.trans (b.mono B.size); clear b
              clear ry
              go_upto_region 30 with (fail)
              refine wp_gen (fun Wv => Below wa19.heap.size wa19 Wv) ((Below.refl _ wa19).alloc (by simp <;> omega) _) ?_
              intro wa20 b
              replace m1 := cell_later b m1; replace B := B.trans (b.mono B.size); clear b
              go_wp2_with fail
              refine (AL.out _).mono ?_
              rintro e wa21 ⟨rfl, b⟩
              replace m1 := cell_later b m1; replace B := B.trans (b.mono B.size); clear b
              go_wp2
              go_ret
              exact ⟨rfl, B⟩
end Go.Proofs.Ytmbokdnndlnjkaa
