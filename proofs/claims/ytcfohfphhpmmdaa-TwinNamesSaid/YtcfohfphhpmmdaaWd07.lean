/- The walk of the law TwinNames. -/
import Derived.Test.YtcfohfphhpmmdaaWa07
import Derived.Test.YtcfohfphhpmmdaaL07b
set_option linter.unusedVariables false
set_option linter.unusedSimpArgs false
namespace Go.Proofs.Ytcfohfphhpmmdaa
open Go.RowKit L02 L05 L06 L07

set_option maxRecDepth 100000 in
set_option maxHeartbeats 8000000 in
theorem TwinNames_walk (w : World) : Calls Try.prog 4 #[] w fun e w' => e = .returned (.bool true) ∧ Below w.heap.size w w' := by
  have B : Below w.heap.size w w := Below.refl _ _
  have WA := Lib.hid (fun w => with_any 256 1 ok1 w)
  have WB := Lib.hid (fun w => with_any 256 2 ok2 w)
  have WC := Lib.hid (fun w => with_any 264 1 ok3 w)
  have F2 := first_one ok1 ok2 (m := two) two_is
  have FA := first_one ok1 ok1 (m := mA) rfl
  obtain ⟨E2, hE2⟩ : ∃ E, E = heals two := ⟨_, rfl⟩
  have hn2 : E2.length = 2 := by rw [hE2]; exact two_n
  have R1 := Lib.hid (fun v w h => TRead_any v two 256 1 true true 0 F2.2.1.symm F2.2.2.1.symm F2.2.2.2.1.symm F2.2.2.2.2.1.symm F2.1.symm w h)
  have H1 := Lib.hid (fun v w h => THeal_any v two E2 0 hE2 F2.1.symm w h)
  have V1 := Lib.hid (fun v w h => TView_any v two mA 0 F2.2.2.2.2.2.1.symm F2.1.symm w h)
  have R2 := Lib.hid (fun v w h => TRead_any v far 256 2 false true 0 far_spec.2.1.symm far_spec.2.2.1.symm far_spec.2.2.2.1.symm far_spec.2.2.2.2.symm far_spec.1.symm w h)
  have n50 : rErr short ≠ 0 := by rw [short_spec.1]; omega
  have R3 := Lib.hid (fun v w h => TRead_any v short 0 0 false false 50 (heals_no n50).2.2.1.symm (heals_no n50).2.2.2.symm short_spec.2.1.symm short_spec.2.2.symm short_spec.1.symm w h)
  have H3 := Lib.hid (fun v w h => THeal_any v short [] 50 (heals_no n50).2.1.symm short_spec.1.symm w h)
  have V3 := Lib.hid (fun v w h => TView_any v short [] 50 (heals_no n50).1.symm short_spec.1.symm w h)
  have n8 : rErr a255 ≠ 0 := by rw [rErr_no a255_no]; omega
  have R4 := Lib.hid (fun v w h => TRead_any v a255 0 0 false false 8 (heals_no n8).2.2.1.symm (heals_no n8).2.2.2.symm (is0_no a255_no).symm (is1_no a255_no).symm (rErr_no a255_no).symm w h)
  have H4 := Lib.hid (fun v w h => THeal_any v a255 [] 8 (heals_no n8).2.1.symm (rErr_no a255_no).symm w h)
  have nn : rErr [] ≠ 0 := by rw [rErr_no nil_no]; omega
  have V5 := Lib.hid (fun v w h => TView_any v [] [] 8 (heals_no nn).1.symm (rErr_no nil_no).symm w h)
  have nz : rErr z256 ≠ 0 := by rw [zero_spec.1]; omega
  have R6 := Lib.hid (fun v w h => TRead_any v z256 0 0 false false 50 (heals_no nz).2.2.1.symm (heals_no nz).2.2.2.symm zero_spec.2.1.symm zero_spec.2.2.symm zero_spec.1.symm w h)
  have H7 := Lib.hid (fun v w h => THeal_any v mA [] 0 mA_none.symm FA.1.symm w h)
  have HN2 := Lib.hid hn2
  have Q1 := Lib.hid (fun U => bb_eql true true true true true (by simp) U)
  have Q2 := Lib.hid (fun U => bb_eql false true false true true (by simp) U)
  clear F2 FA hE2 hn2 n50 n8 nn nz
  go_enter Try.func4, Try.ntmps4
  go_wp2_with fail
  refine (WA.out _).mono ?_
  rintro e wa1 ⟨vA, rfl, oA, b⟩
  replace B := B.trans (b.mono B.size); clear b
  go_wp2_with fail
  refine (WB.out _).mono ?_
  rintro e wa2 ⟨vB, rfl, oB, b⟩
  replace oA := oA.below b; replace B := B.trans (b.mono B.size); clear b
  go_wp2_with fail
  refine (WC.out _).mono ?_
  rintro e wa3 ⟨vC, rfl, oC, b⟩
  replace oA := oA.below b; replace oB := oB.below b; replace B := B.trans (b.mono B.size); clear b
  replace oA : OwnW wa3 _ 50 vA mA := oA
  replace oB : OwnW wa3 _ 50 vB mB := oB
  replace oC : OwnW wa3 _ 50 vC mC := oC
  have OA := Lib.hid oA.rd; have OB := Lib.hid oB.rd; have OC := Lib.hid oC.rd
  have B1 : Below wa3.heap.size wa3 wa3 := Below.refl _ _
  clear oA oB oC
  obtain ⟨s1, sl1, hs⟩ := OA.out.cutTo (P := Try.prog) Try.underlying22 one_u64 (hi := 8) (by omega) (by rw [mA_len]; omega)
  have S1 := Lib.hid (show Words wa3 s1 (mA.take 8) from hs); clear hs
  obtain ⟨s2, sl2, hs⟩ := OB.out.cutFrom (P := Try.prog) Try.underlying22 one_u64 (lo := 8) (by omega) (by rw [mB_len]; omega)
  have S2 := Lib.hid (show Words wa3 s2 (mB.drop 8) from hs); clear hs
  go_upto_region 6 with (fail)
  have b1 : Below wa3.heap.size wa3 (wa3.drew.alloc (.cells #[] 50)) := ((Below.refl _ wa3).drew).alloc (Nat.le_refl _) _
  obtain ⟨vm1, WM1, r2, o2, gr2⟩ := run_append_rd (P := Try.prog) (w := wa3.drew.alloc (.cells #[] 50)) (ty := 22) Try.underlying22 info_u64 rfl (by omega) (lit0_own (B := wa3.heap.size) (w := wa3.drew) (e := 50) (sz := 1) (Nat.le_refl _)) (S1.out.below b1) (one_u64s _) (by decide) (by decide) b1.size
  have b2 : Below wa3.heap.size wa3 WM1 := b1.grown gr2 b1.size (fun k hk => (lit0_own (B := wa3.heap.size) (w := wa3.drew) (e := 50) (sz := 1) (Nat.le_refl _) |>.lt k hk).1)
  obtain ⟨vt, WN1, r3, o3, gr3⟩ := run_append_rd (P := Try.prog) (w := WM1) (ty := 22) Try.underlying22 info_u64 rfl (by omega) o2 (S2.out.below b2) (one_u64s _) (by decide) (by decide) b2.size
  have b3 : Below wa3.heap.size wa3 WN1 := b2.grown gr3 b2.size (fun k hk => (o2.lt k hk).1)
  have r1 : (Instr.buildSlice 22 0 #[]).run Try.prog wa3.drew = .ok (.slice (some ⟨wa3.heap.size, 0, none⟩) 0 0) (wa3.drew.alloc (.cells #[] 50)) := run_lit0 (P := Try.prog) (t := 22) (e := 50) wa3.drew Try.underlying22 (by kernel_rfl)
  replace r2 : (Builtin.append_ #[22, 22] 22 #[.slice (some ⟨wa3.heap.size, 0, none⟩) 0 0, s1]).run Try.prog (wa3.drew.alloc (.cells #[] 50)) = .ok vm1 WM1 := r2
  have HO := Lib.hid (show OwnW WN1 wa3.heap.size 50 vt two from OwnW.of o3 (by rw [show two = mA.take 8 ++ mB.drop 8 from rfl]; simp)); have HB3 := Lib.hid b3
  clear o2 o3 gr2 gr3 b1 b2 b3
  haveI : Nonempty (FXN (FC3 0 3 6 wa3.drew (wa3.drew.alloc (.cells #[] 50)) WM1 WN1)) := ⟨⟨_, _, FC3.start⟩⟩
  refine wp_region_N (FC3 0 3 6 wa3.drew (wa3.drew.alloc (.cells #[] 50)) WM1 WN1) [0, 3, 6] FC3.dep (by kernel_rfl) (by kernel_rfl) (by kernel_rfl) FC3.start ?_
  refine wpN_step FC3.dep rfl (by rfl) (v := .slice (some ⟨wa3.heap.size, 0, none⟩) 0 0) [] (by kernel_rfl) (fun f W hF h0 h1 => ?_) ?_
  · obtain ⟨rfl, h2⟩ := FC3.s1 (by decide) hF h0
    exact ⟨_, by simp [execOp, r1], h2⟩
  simp only [Act.put, List.setIfInBounds_toArray, List.set_cons_zero, List.set_cons_succ]
  iterate 1 (refine wpN_read FC3.dep rfl (by decide) ?_; go_big_quiet_step (fail); refine wpQuiet_nil ?_)
  refine wpN_pure FC3.dep (by decide) rfl (v := s1) (fun W => by simp [execOp, Act.eval, sl1]) ?_
  simp only [Act.put, List.setIfInBounds_toArray, List.set_cons_zero, List.set_cons_succ]
  refine wpN_step FC3.dep rfl (by rfl) (v := vm1) [0] (by kernel_rfl) (fun f W hF h0 h1 => ?_) ?_
  · obtain ⟨rfl, h2⟩ := FC3.s2 (by decide) hF h0 (h1 0 (by simp))
    exact ⟨_, by simp [execOp, resolve, invoke, builtin, Act.eval, r2], h2⟩
  simp only [Act.put, List.setIfInBounds_toArray, List.set_cons_zero, List.set_cons_succ]
  iterate 1 (refine wpN_read FC3.dep rfl (by decide) ?_; go_big_quiet_step (fail); refine wpQuiet_nil ?_)
  refine wpN_pure FC3.dep (by decide) rfl (v := s2) (fun W => by simp [execOp, Act.eval, sl2]) ?_
  simp only [Act.put, List.setIfInBounds_toArray, List.set_cons_zero, List.set_cons_succ]
  refine wpN_step FC3.dep rfl (by rfl) (v := vt) [3] (by kernel_rfl) (fun f W hF h0 h1 => ?_) ?_
  · obtain ⟨rfl, h2⟩ := FC3.s3 (by decide) hF h0 (h1 3 (by simp))
    exact ⟨_, by simp [execOp, resolve, invoke, builtin, Act.eval, r3], h2⟩
  simp only [Act.put, List.setIfInBounds_toArray, List.set_cons_zero, List.set_cons_succ]
  iterate 1 (refine wpN_read FC3.dep rfl (by decide) ?_; go_big_quiet_step (fail); refine wpQuiet_nil ?_)
  intro WE1 hWE
  obtain rfl := FC3.done hWE
  go_upto_region 7 with (fail)
  refine wp_gen (fun U => OwnW U wa3.heap.size 50 vt two ∧ Below wa3.heap.size wa3 U) ⟨HO.out, HB3.out⟩ ?_
  clear HO HB3
  rintro wb ⟨o1, bb⟩
  clear sl1 sl2
  replace B := B.trans (bb.mono B.size); replace B1 := B1.trans (bb.mono B1.size); clear bb
  go_wp2_with fail
  refine (R1.out _ _ o1.rd).mono ?_
  rintro e wa4 ⟨rfl, b⟩
  replace o1 := o1.below b; replace B1 := B1.trans (b.mono B1.size); replace B := B.trans (b.mono B.size); clear b
  go_upto_region 8 with (fail)
  refine wp_gen (fun Wv => Bx Wv (wa4.heap.size) (26) (#[.int .i64 256, .int .i64 1]) ∧ Bx Wv (wa4.heap.size + 1) (27) (#[.bool true, .bool true]) ∧ Below wa4.heap.size wa4 Wv) ⟨(((Bx.at_ (by simp)).alloc _)), ((Bx.at_ (by simp))), (((Below.refl _ wa4).alloc (by simp <;> omega) _).alloc (by simp <;> omega) _)⟩ ?_
  rintro wa5 ⟨g8, g9, b⟩
  replace o1 := o1.below b; replace B1 := B1.trans (b.mono B1.size); replace B := B.trans (b.mono B.size); clear b
  have c_g8 := g8.cell; have f_g8 := g8.free; have a_g8 := fun o => (g8.alloc o).cell; have d_g8 := fun o o2 => ((g8.alloc o).alloc o2).cell; have e_g8 := fun o => (g8.alloc o).free
  have c_g9 := g9.cell; have f_g9 := g9.free; have a_g9 := fun o => (g9.alloc o).cell; have d_g9 := fun o o2 => ((g9.alloc o).alloc o2).cell; have e_g9 := fun o => (g9.alloc o).free
  have G8 := Lib.hid g8; have G9 := Lib.hid g9
  have B2 : Below wa5.heap.size wa5 wa5 := Below.refl _ _
  clear g8 g9 c_g8 f_g8 a_g8 d_g8 e_g8 c_g9 f_g9 a_g9 d_g9 e_g9
  go_wp2_with fail
  refine (H1.out _ _ o1.rd).mono ?_
  rintro e wa6 ⟨x11, rfl, o11, b⟩
  replace o1 := o1.below b; replace B1 := B1.trans (b.mono B1.size); replace B2 := B2.trans (b.mono B2.size); replace B := B.trans (b.mono B.size); clear b
  go_wp2_with fail
  refine (V1.out _ _ o1.rd).mono ?_
  rintro e wa7 ⟨x13, rfl, o13, b⟩
  replace o1 := o1.below b; replace B1 := B1.trans (b.mono B1.size); replace B2 := B2.trans (b.mono B2.size); replace o11 := o11.below b; replace B := B.trans (b.mono B.size); clear b
  clear o1
  have OL := Lib.hid o11.rd; have OV := Lib.hid o13.rd
  have B3 : Below wa7.heap.size wa7 wa7 := Below.refl _ _
  clear o11 o13
  obtain ⟨s3, sl1, hs⟩ := (OC.out.below B1).cutTo (P := Try.prog) Try.underlying22 one_u64 (hi := 8) (by omega) (by rw [mC_len]; omega)
  have S3 := Lib.hid (show Words wa7 s3 (mC.take 8) from hs); clear hs
  obtain ⟨s4, sl2, hs⟩ := (OB.out.below B1).cutFrom (P := Try.prog) Try.underlying22 one_u64 (lo := 8) (by omega) (by rw [mB_len]; omega)
  have S4 := Lib.hid (show Words wa7 s4 (mB.drop 8) from hs); clear hs
  go_upto_region 10 with (fail)
  have b1 : Below wa7.heap.size wa7 (wa7.drew.alloc (.cells #[] 50)) := ((Below.refl _ wa7).drew).alloc (Nat.le_refl _) _
  obtain ⟨vm2, WM2, r2, o2, gr2⟩ := run_append_rd (P := Try.prog) (w := wa7.drew.alloc (.cells #[] 50)) (ty := 22) Try.underlying22 info_u64 rfl (by omega) (lit0_own (B := wa7.heap.size) (w := wa7.drew) (e := 50) (sz := 1) (Nat.le_refl _)) (S3.out.below b1) (one_u64s _) (by decide) (by decide) b1.size
  have b2 : Below wa7.heap.size wa7 WM2 := b1.grown gr2 b1.size (fun k hk => (lit0_own (B := wa7.heap.size) (w := wa7.drew) (e := 50) (sz := 1) (Nat.le_refl _) |>.lt k hk).1)
  obtain ⟨vf, WN2, r3, o3, gr3⟩ := run_append_rd (P := Try.prog) (w := WM2) (ty := 22) Try.underlying22 info_u64 rfl (by omega) o2 (S4.out.below b2) (one_u64s _) (by decide) (by decide) b2.size
  have b3 : Below wa7.heap.size wa7 WN2 := b2.grown gr3 b2.size (fun k hk => (o2.lt k hk).1)
  have r1 : (Instr.buildSlice 22 0 #[]).run Try.prog wa7.drew = .ok (.slice (some ⟨wa7.heap.size, 0, none⟩) 0 0) (wa7.drew.alloc (.cells #[] 50)) := run_lit0 (P := Try.prog) (t := 22) (e := 50) wa7.drew Try.underlying22 (by kernel_rfl)
  replace r2 : (Builtin.append_ #[22, 22] 22 #[.slice (some ⟨wa7.heap.size, 0, none⟩) 0 0, s3]).run Try.prog (wa7.drew.alloc (.cells #[] 50)) = .ok vm2 WM2 := r2
  have HO := Lib.hid (show OwnW WN2 wa7.heap.size 50 vf far from OwnW.of o3 (by rw [show far = mC.take 8 ++ mB.drop 8 from rfl]; simp)); have HB3 := Lib.hid b3
  clear o2 o3 gr2 gr3 b1 b2 b3
  haveI : Nonempty (FXN (FC3 0 3 6 wa7.drew (wa7.drew.alloc (.cells #[] 50)) WM2 WN2)) := ⟨⟨_, _, FC3.start⟩⟩
  refine wp_region_N (FC3 0 3 6 wa7.drew (wa7.drew.alloc (.cells #[] 50)) WM2 WN2) [0, 3, 6] FC3.dep (by kernel_rfl) (by kernel_rfl) (by kernel_rfl) FC3.start ?_
  refine wpN_step FC3.dep rfl (by rfl) (v := .slice (some ⟨wa7.heap.size, 0, none⟩) 0 0) [] (by kernel_rfl) (fun f W hF h0 h1 => ?_) ?_
  · obtain ⟨rfl, h2⟩ := FC3.s1 (by decide) hF h0
    exact ⟨_, by simp [execOp, r1], h2⟩
  simp only [Act.put, List.setIfInBounds_toArray, List.set_cons_zero, List.set_cons_succ]
  iterate 1 (refine wpN_read FC3.dep rfl (by decide) ?_; go_big_quiet_step (fail); refine wpQuiet_nil ?_)
  refine wpN_pure FC3.dep (by decide) rfl (v := s3) (fun W => by simp [execOp, Act.eval, sl1]) ?_
  simp only [Act.put, List.setIfInBounds_toArray, List.set_cons_zero, List.set_cons_succ]
  refine wpN_step FC3.dep rfl (by rfl) (v := vm2) [0] (by kernel_rfl) (fun f W hF h0 h1 => ?_) ?_
  · obtain ⟨rfl, h2⟩ := FC3.s2 (by decide) hF h0 (h1 0 (by simp))
    exact ⟨_, by simp [execOp, resolve, invoke, builtin, Act.eval, r2], h2⟩
  simp only [Act.put, List.setIfInBounds_toArray, List.set_cons_zero, List.set_cons_succ]
  iterate 1 (refine wpN_read FC3.dep rfl (by decide) ?_; go_big_quiet_step (fail); refine wpQuiet_nil ?_)
  refine wpN_pure FC3.dep (by decide) rfl (v := s4) (fun W => by simp [execOp, Act.eval, sl2]) ?_
  simp only [Act.put, List.setIfInBounds_toArray, List.set_cons_zero, List.set_cons_succ]
  refine wpN_step FC3.dep rfl (by rfl) (v := vf) [3] (by kernel_rfl) (fun f W hF h0 h1 => ?_) ?_
  · obtain ⟨rfl, h2⟩ := FC3.s3 (by decide) hF h0 (h1 3 (by simp))
    exact ⟨_, by simp [execOp, resolve, invoke, builtin, Act.eval, r3], h2⟩
  simp only [Act.put, List.setIfInBounds_toArray, List.set_cons_zero, List.set_cons_succ]
  iterate 1 (refine wpN_read FC3.dep rfl (by decide) ?_; go_big_quiet_step (fail); refine wpQuiet_nil ?_)
  intro WE2 hWE
  obtain rfl := FC3.done hWE
  go_upto_region 11 with (fail)
  refine wp_gen (fun U => OwnW U wa7.heap.size 50 vf far ∧ Below wa7.heap.size wa7 U) ⟨HO.out, HB3.out⟩ ?_
  clear HO HB3
  rintro wc ⟨o2, bb⟩
  clear sl1 sl2
  replace B := B.trans (bb.mono B.size); replace B1 := B1.trans (bb.mono B1.size); replace B2 := B2.trans (bb.mono B2.size); replace B3 := B3.trans (bb.mono B3.size); clear bb
  go_wp2_with fail
  refine (R2.out _ _ o2.rd).mono ?_
  rintro e wa8 ⟨rfl, b⟩
  replace B1 := B1.trans (b.mono B1.size); replace B2 := B2.trans (b.mono B2.size); replace B3 := B3.trans (b.mono B3.size); replace B := B.trans (b.mono B.size); clear b
  clear o2
  go_upto_region 12 with (fail)
  refine wp_gen (fun Wv => Bx Wv (wa8.heap.size) (26) (#[.int .i64 256, .int .i64 2]) ∧ Bx Wv (wa8.heap.size + 1) (27) (#[.bool false, .bool true]) ∧ Below wa8.heap.size wa8 Wv) ⟨(((Bx.at_ (by simp)).alloc _)), ((Bx.at_ (by simp))), (((Below.refl _ wa8).alloc (by simp <;> omega) _).alloc (by simp <;> omega) _)⟩ ?_
  rintro wa9 ⟨g16, g17, b⟩
  replace B1 := B1.trans (b.mono B1.size); replace B2 := B2.trans (b.mono B2.size); replace B3 := B3.trans (b.mono B3.size); replace B := B.trans (b.mono B.size); clear b
  have c_g16 := g16.cell; have f_g16 := g16.free; have a_g16 := fun o => (g16.alloc o).cell; have d_g16 := fun o o2 => ((g16.alloc o).alloc o2).cell; have e_g16 := fun o => (g16.alloc o).free
  have c_g17 := g17.cell; have f_g17 := g17.free; have a_g17 := fun o => (g17.alloc o).cell; have d_g17 := fun o o2 => ((g17.alloc o).alloc o2).cell; have e_g17 := fun o => (g17.alloc o).free
  have G16 := Lib.hid g16; have G17 := Lib.hid g17
  have B4 : Below wa9.heap.size wa9 wa9 := Below.refl _ _
  clear g16 g17 c_g16 f_g16 a_g16 d_g16 e_g16 c_g17 f_g17 a_g17 d_g17 e_g17
  obtain ⟨s5, sl1, hs⟩ := (OC.out.below B1).cutTo (P := Try.prog) Try.underlying22 one_u64 (hi := 16) (by omega) (by rw [mC_len]; omega)
  have S5 := Lib.hid (show Words wa9 s5 (mC.take 16) from hs); clear hs
  obtain ⟨s6, sl2, hs⟩ := (OA.out.below B1).cutFrom (P := Try.prog) Try.underlying22 one_u64 (lo := 16) (by omega) (by rw [mA_len]; omega)
  have S6 := Lib.hid (show Words wa9 s6 (mA.drop 16) from hs); clear hs
  have b1 : Below wa9.heap.size wa9 (wa9.drew.alloc (.cells #[] 50)) := ((Below.refl _ wa9).drew).alloc (Nat.le_refl _) _
  obtain ⟨vm3, WM3, r2, o2, gr2⟩ := run_append_rd (P := Try.prog) (w := wa9.drew.alloc (.cells #[] 50)) (ty := 22) Try.underlying22 info_u64 rfl (by omega) (lit0_own (B := wa9.heap.size) (w := wa9.drew) (e := 50) (sz := 1) (Nat.le_refl _)) (S5.out.below b1) (one_u64s _) (by decide) (by decide) b1.size
  have b2 : Below wa9.heap.size wa9 WM3 := b1.grown gr2 b1.size (fun k hk => (lit0_own (B := wa9.heap.size) (w := wa9.drew) (e := 50) (sz := 1) (Nat.le_refl _) |>.lt k hk).1)
  obtain ⟨vs, WN3, r3, o3, gr3⟩ := run_append_rd (P := Try.prog) (w := WM3) (ty := 22) Try.underlying22 info_u64 rfl (by omega) o2 (S6.out.below b2) (one_u64s _) (by decide) (by decide) b2.size
  have b3 : Below wa9.heap.size wa9 WN3 := b2.grown gr3 b2.size (fun k hk => (o2.lt k hk).1)
  have r1 : (Instr.buildSlice 22 0 #[]).run Try.prog wa9.drew = .ok (.slice (some ⟨wa9.heap.size, 0, none⟩) 0 0) (wa9.drew.alloc (.cells #[] 50)) := run_lit0 (P := Try.prog) (t := 22) (e := 50) wa9.drew Try.underlying22 (by kernel_rfl)
  replace r2 : (Builtin.append_ #[22, 22] 22 #[.slice (some ⟨wa9.heap.size, 0, none⟩) 0 0, s5]).run Try.prog (wa9.drew.alloc (.cells #[] 50)) = .ok vm3 WM3 := r2
  have HO := Lib.hid (show OwnW WN3 wa9.heap.size 50 vs short from OwnW.of o3 (by rw [show short = mC.take 16 ++ mA.drop 16 from rfl]; simp)); have HB3 := Lib.hid b3
  clear o2 o3 gr2 gr3 b1 b2 b3
  haveI : Nonempty (FXN (FC3 0 3 6 wa9.drew (wa9.drew.alloc (.cells #[] 50)) WM3 WN3)) := ⟨⟨_, _, FC3.start⟩⟩
  refine wp_region_N (FC3 0 3 6 wa9.drew (wa9.drew.alloc (.cells #[] 50)) WM3 WN3) [0, 3, 6] FC3.dep (by kernel_rfl) (by kernel_rfl) (by kernel_rfl) FC3.start ?_
  refine wpN_step FC3.dep rfl (by rfl) (v := .slice (some ⟨wa9.heap.size, 0, none⟩) 0 0) [] (by kernel_rfl) (fun f W hF h0 h1 => ?_) ?_
  · obtain ⟨rfl, h2⟩ := FC3.s1 (by decide) hF h0
    exact ⟨_, by simp [execOp, r1], h2⟩
  simp only [Act.put, List.setIfInBounds_toArray, List.set_cons_zero, List.set_cons_succ]
  iterate 1 (refine wpN_read FC3.dep rfl (by decide) ?_; go_big_quiet_step (fail); refine wpQuiet_nil ?_)
  refine wpN_pure FC3.dep (by decide) rfl (v := s5) (fun W => by simp [execOp, Act.eval, sl1]) ?_
  simp only [Act.put, List.setIfInBounds_toArray, List.set_cons_zero, List.set_cons_succ]
  refine wpN_step FC3.dep rfl (by rfl) (v := vm3) [0] (by kernel_rfl) (fun f W hF h0 h1 => ?_) ?_
  · obtain ⟨rfl, h2⟩ := FC3.s2 (by decide) hF h0 (h1 0 (by simp))
    exact ⟨_, by simp [execOp, resolve, invoke, builtin, Act.eval, r2], h2⟩
  simp only [Act.put, List.setIfInBounds_toArray, List.set_cons_zero, List.set_cons_succ]
  iterate 1 (refine wpN_read FC3.dep rfl (by decide) ?_; go_big_quiet_step (fail); refine wpQuiet_nil ?_)
  refine wpN_pure FC3.dep (by decide) rfl (v := s6) (fun W => by simp [execOp, Act.eval, sl2]) ?_
  simp only [Act.put, List.setIfInBounds_toArray, List.set_cons_zero, List.set_cons_succ]
  refine wpN_step FC3.dep rfl (by rfl) (v := vs) [3] (by kernel_rfl) (fun f W hF h0 h1 => ?_) ?_
  · obtain ⟨rfl, h2⟩ := FC3.s3 (by decide) hF h0 (h1 3 (by simp))
    exact ⟨_, by simp [execOp, resolve, invoke, builtin, Act.eval, r3], h2⟩
  simp only [Act.put, List.setIfInBounds_toArray, List.set_cons_zero, List.set_cons_succ]
  iterate 1 (refine wpN_read FC3.dep rfl (by decide) ?_; go_big_quiet_step (fail); refine wpQuiet_nil ?_)
  intro WE3 hWE
  obtain rfl := FC3.done hWE
  go_upto_region 13 with (fail)
  refine wp_gen (fun U => OwnW U wa9.heap.size 50 vs short ∧ Below wa9.heap.size wa9 U) ⟨HO.out, HB3.out⟩ ?_
  clear HO HB3
  rintro wd ⟨o3, bb⟩
  clear sl1 sl2
  replace B := B.trans (bb.mono B.size); replace B1 := B1.trans (bb.mono B1.size); replace B2 := B2.trans (bb.mono B2.size); replace B3 := B3.trans (bb.mono B3.size); replace B4 := B4.trans (bb.mono B4.size); clear bb
  go_wp2_with fail
  refine (R3.out _ _ o3.rd).mono ?_
  rintro e wa10 ⟨rfl, b⟩
  replace o3 := o3.below b; replace B1 := B1.trans (b.mono B1.size); replace B2 := B2.trans (b.mono B2.size); replace B3 := B3.trans (b.mono B3.size); replace B4 := B4.trans (b.mono B4.size); replace B := B.trans (b.mono B.size); clear b
  go_upto_region 14 with (fail)
  refine wp_gen (fun Wv => Below wa10.heap.size wa10 Wv) (((Below.refl _ wa10).alloc (by simp <;> omega) _).alloc (by simp <;> omega) _) ?_
  intro wa11 b
  replace o3 := o3.below b; replace B1 := B1.trans (b.mono B1.size); replace B2 := B2.trans (b.mono B2.size); replace B3 := B3.trans (b.mono B3.size); replace B4 := B4.trans (b.mono B4.size); replace B := B.trans (b.mono B.size); clear b
  go_wp2_with fail
  refine (H3.out _ _ o3.rd).mono ?_
  rintro e wa12 ⟨x23, rfl, oz, b⟩
  replace o3 := o3.below b; replace B1 := B1.trans (b.mono B1.size); replace B2 := B2.trans (b.mono B2.size); replace B3 := B3.trans (b.mono B3.size); replace B4 := B4.trans (b.mono B4.size); replace B := B.trans (b.mono B.size); clear b
  clear oz
  go_wp2_with fail
  refine (V3.out _ _ o3.rd).mono ?_
  rintro e wa13 ⟨x25, rfl, oz, b⟩
  replace o3 := o3.below b; replace B1 := B1.trans (b.mono B1.size); replace B2 := B2.trans (b.mono B2.size); replace B3 := B3.trans (b.mono B3.size); replace B4 := B4.trans (b.mono B4.size); replace B := B.trans (b.mono B.size); clear b
  clear oz
  clear o3
  obtain ⟨s7, sl1, hs⟩ := (OA.out.below B1).cutTo (P := Try.prog) Try.underlying22 one_u64 (hi := 255) (by omega) (by rw [mA_len]; omega)
  have hs' : Words wa13 s7 a255 := hs
  have B5 := B1
  clear hs
  go_wp2_with fail
  refine (R4.out _ _ hs').mono ?_
  rintro e wa14 ⟨rfl, b⟩
  replace hs' := hs'.below b; replace B1 := B1.trans (b.mono B1.size); replace B2 := B2.trans (b.mono B2.size); replace B3 := B3.trans (b.mono B3.size); replace B4 := B4.trans (b.mono B4.size); replace B := B.trans (b.mono B.size); clear b
  go_upto_region 17 with (fail)
  refine wp_gen (fun Wv => Below wa14.heap.size wa14 Wv) (((Below.refl _ wa14).alloc (by simp <;> omega) _).alloc (by simp <;> omega) _) ?_
  intro wa15 b
  replace hs' := hs'.below b; replace B1 := B1.trans (b.mono B1.size); replace B2 := B2.trans (b.mono B2.size); replace B3 := B3.trans (b.mono B3.size); replace B4 := B4.trans (b.mono B4.size); replace B := B.trans (b.mono B.size); clear b
  go_wp2_with fail
  refine (H4.out _ _ hs').mono ?_
  rintro e wa16 ⟨x30, rfl, oz, b⟩
  replace hs' := hs'.below b; replace B1 := B1.trans (b.mono B1.size); replace B2 := B2.trans (b.mono B2.size); replace B3 := B3.trans (b.mono B3.size); replace B4 := B4.trans (b.mono B4.size); replace B := B.trans (b.mono B.size); clear b
  clear oz
  clear hs'
  clear sl1
  go_wp2_with fail
  refine (V5.out _ _ (Words.nil _)).mono ?_
  rintro e wa17 ⟨x32, rfl, oz, b⟩
  replace B1 := B1.trans (b.mono B1.size); replace B2 := B2.trans (b.mono B2.size); replace B3 := B3.trans (b.mono B3.size); replace B4 := B4.trans (b.mono B4.size); replace B := B.trans (b.mono B.size); clear b
  clear oz
  go_upto_region 19 with (fail)
  go_wp2_with (at_make; refine wpList_make (by rfl) rfl (n := 256) rfl rfl Try.underlying22 info_u64 rfl (by omega) (by omega) (Below.refl wa17.heap.size wa17) (Nat.le_refl _) ?_; intro v1 wm hown hbel)
  have oz : OwnW wm wa17.heap.size 50 v1 z256 := hown
  replace B := B.trans (hbel.mono B.size); replace B1 := B1.trans (hbel.mono B1.size); replace B2 := B2.trans (hbel.mono B2.size); replace B3 := B3.trans (hbel.mono B3.size); replace B4 := B4.trans (hbel.mono B4.size)
  clear hown hbel
  go_wp2_with fail
  refine (R6.out _ _ oz.rd).mono ?_
  rintro e wa18 ⟨rfl, b⟩
  replace B1 := B1.trans (b.mono B1.size); replace B2 := B2.trans (b.mono B2.size); replace B3 := B3.trans (b.mono B3.size); replace B4 := B4.trans (b.mono B4.size); replace B := B.trans (b.mono B.size); clear b
  clear oz
  go_upto_region 20 with (fail)
  refine wp_gen (fun Wv => Below wa18.heap.size wa18 Wv) (((Below.refl _ wa18).alloc (by simp <;> omega) _).alloc (by simp <;> omega) _) ?_
  intro wa19 b
  replace B1 := B1.trans (b.mono B1.size); replace B2 := B2.trans (b.mono B2.size); replace B3 := B3.trans (b.mono B3.size); replace B4 := B4.trans (b.mono B4.size); replace B := B.trans (b.mono B.size); clear b
  have lL : ∀ ty U, (Builtin.len_ #[37] ty #[x11]).run Try.prog U = .ok (.int .i64 2) U := by
    have := Rd.len OL.out Try.underlying37
    rw [HN2.out] at this
    exact this
  go_wp2_with fail
  refine (H7.out _ _ (OA.out.below B1)).mono ?_
  rintro e wq ⟨x37, rfl, oz, b⟩
  have lz : ∀ ty U, (Builtin.len_ #[37] ty #[x37]).run Try.prog U = .ok (.int .i64 0) U := Rd.len oz.rd Try.underlying37
  replace B := B.trans (b.mono B.size); replace B1 := B1.trans (b.mono B1.size); replace B2 := B2.trans (b.mono B2.size); replace B3 := B3.trans (b.mono B3.size); replace B4 := B4.trans (b.mono B4.size)
  clear b oz
  have c8 := (G8.out.below B2).cell; have c9 := (G9.out.below B2).cell; have c16 := (G16.out.below B4).cell; have c17 := (G17.out.below B4).cell
  have q1 := Q1.out
  go_wp2_with fail
  refine (Same_any _ _ mA mA _ (OV.out.below B3) (OA.out.below B1)).mono ?_
  rw [same_refl]
  rintro e wy ⟨rfl, qq⟩
  replace B := B.trans (qq.below.mono B.size); replace B4 := B4.trans (qq.below.mono B4.size)
  clear c8 c9 c16 c17 q1 qq
  have c16 := (G16.out.below B4).cell; have c17 := (G17.out.below B4).cell
  have q2 := Q2.out
  go_wp2_with fail
  refine (alive07_any _).mono ?_
  rintro e wz ⟨rfl, b⟩
  replace B := B.trans (b.mono B.size)
  clear b c16 c17 q2
  go_wp2
  go_ret
  exact ⟨rfl, B⟩
end Go.Proofs.Ytcfohfphhpmmdaa
