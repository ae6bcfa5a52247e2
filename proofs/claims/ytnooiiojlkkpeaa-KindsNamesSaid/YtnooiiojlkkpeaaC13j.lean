/- Contracts of types: the tables of the law KindsNames. -/
import Derived.Test.YtnooiiojlkkpeaaC13i
set_option linter.unusedVariables false
set_option linter.unusedSimpArgs false
namespace Go.Proofs.Ytnooiiojlkkpeaa
open Go.RowKit L02 L05 L13

set_option maxRecDepth 100000 in
set_option maxHeartbeats 4000000 in
theorem tables13_any (w : World) : Calls Try.prog 26 #[] w fun e w' => e = .returned (.bool true) ∧ Below w.heap.size w w' := by
  have B : Below w.heap.size w w := Below.refl _ _
  obtain ⟨a, ha⟩ : ∃ a, a = w0 [1, 2, 3] := ⟨_, rfl⟩
  obtain ⟨b1, hb⟩ : ∃ b, b = w1 [1, 2, 3] := ⟨_, rfl⟩
  obtain ⟨c, hc⟩ : ∃ a, a = w0 [] := ⟨_, rfl⟩
  obtain ⟨d, hd⟩ : ∃ b, b = w1 [] := ⟨_, rfl⟩
  have HW := Lib.hid (fun v w h => KWrite_any v [1, 2, 3] a b1 0 ha hb (by decide) w h)
  have HW0 := Lib.hid (fun v w h => KWrite_any v [] c d 0 hc hd (by decide) w h)
  have HE := Lib.hid (And.intro (And.intro ha hb) (And.intro hc hd)); clear ha hb hc hd
  go_enter Try.func26, Try.ntmps26
  go_wp2_with (at_make; refine wpList_make (by rfl) rfl (n := 256) rfl rfl Try.underlying46 info_u64 rfl (by omega) (by omega) (B := w.heap.size) B (Nat.le_refl _) ?_; intro v1 wm hown hbel)
  obtain ⟨g6, c6, cur, rfl, _⟩ := own_form hown (by omega)
  have o6 : OwnW wm w.heap.size 23 (.slice (some ⟨g6, 0, none⟩) 256 c6) (fillT ex2 0) := hown
  replace B := hbel; clear hown hbel
  have hl0 := fillT_len ex2 0
  obtain ⟨M, hM⟩ : ∃ M, M = fillT ex2 0 := ⟨_, rfl⟩
  rw [← hM] at o6 hl0
  have HM := Lib.hid hM; clear hM
  go_wp2_with fail
  refine (example13_any _).mono ?_
  rintro e wa1 ⟨x1, rfl, o1, b⟩
  replace o6 := o6.below b; replace B := B.trans (b.mono B.size); clear b
  go_wp2_with fail
  refine (HW.out _ _ o1.rd).mono ?_
  rintro e wa2 ⟨rfl, b⟩
  replace o6 := o6.below b; replace o1 := o1.below b; replace B := B.trans (b.mono B.size); clear b
  have hg1 : g6 < wa2.heap.size := own_lt o6 (by omega)
  go_wp2_with fail
  refine calls_gen (fun Wv => Bx Wv (wa2.heap.size) (29) (#[.int .u64 a.toNat, .int .u64 b1.toNat]) ∧ Below wa2.heap.size wa2 Wv) ⟨((Bx.at_ (by simp))), ((Below.refl _ wa2).alloc (by simp <;> omega) _)⟩ ?_
  rintro wa3 ⟨g1, b⟩
  replace o6 := o6.below b; replace o1 := o1.below b; replace B := B.trans (b.mono B.size); clear b
  have c_g1 := g1.cell; have f_g1 := g1.free; have a_g1 := fun o => (g1.alloc o).cell; have d_g1 := fun o o2 => ((g1.alloc o).alloc o2).cell; have e_g1 := fun o => (g1.alloc o).free
  go_wp2_with fail
  refine (HW0.out _ _ (Rd.nil _ _)).mono ?_
  rintro e wa4 ⟨rfl, b⟩
  replace o6 := o6.below b; replace o1 := o1.below b; try clear c_g1 f_g1 a_g1 d_g1 e_g1
  replace g1 := g1.below b; have c_g1 := g1.cell; have f_g1 := g1.free; have a_g1 := fun o => (g1.alloc o).cell; have d_g1 := fun o o2 => ((g1.alloc o).alloc o2).cell; have e_g1 := fun o => (g1.alloc o).free; replace B := B.trans (b.mono B.size); clear b
  have hg2 : g6 < wa4.heap.size := own_lt o6 (by omega)
  go_wp2_with fail
  refine wp_gen (fun Wv => Bx Wv (wa4.heap.size) (29) (#[.int .u64 c.toNat, .int .u64 d.toNat]) ∧ Below wa4.heap.size wa4 Wv) ⟨((Bx.at_ (by simp))), ((Below.refl _ wa4).alloc (by simp <;> omega) _)⟩ ?_
  rintro wa5 ⟨g2, b⟩
  replace o6 := o6.below b; replace o1 := o1.below b; try clear c_g1 f_g1 a_g1 d_g1 e_g1
  replace g1 := g1.below b; have c_g1 := g1.cell; have f_g1 := g1.free; have a_g1 := fun o => (g1.alloc o).cell; have d_g1 := fun o o2 => ((g1.alloc o).alloc o2).cell; have e_g1 := fun o => (g1.alloc o).free; replace B := B.trans (b.mono B.size); clear b
  have c_g2 := g2.cell; have f_g2 := g2.free; have a_g2 := fun o => (g2.alloc o).cell; have d_g2 := fun o o2 => ((g2.alloc o).alloc o2).cell; have e_g2 := fun o => (g2.alloc o).free
  have o7 : wa5.ownsRow w.heap.size 23 1 (.slice (some ⟨g6, 0, none⟩) 256 c6) 256 (M.map Go.Proofs.Ytnooiiojlkkpeaa.u64) := by have := o6; unfold OwnW at this; rwa [hl0] at this
  have ix1 : ∀ W', (Instr.indexAt 46 (.slice (some ⟨g6, 0, none⟩) 256 c6) (.int .i64 96)).run Try.prog W' = .ok (.pointer (some ⟨g6, 96, none⟩)) W' := own_ix o7 Try.underlying46 one_u64 (j := 96) (by omega)
  have ix2 : ∀ W', (Instr.indexAt 46 (.slice (some ⟨g6, 0, none⟩) 256 c6) (.int .i64 97)).run Try.prog W' = .ok (.pointer (some ⟨g6, 97, none⟩)) W' := own_ix o7 Try.underlying46 one_u64 (j := 97) (by omega)
  have ix3 : ∀ W', (Instr.indexAt 46 (.slice (some ⟨g6, 0, none⟩) 256 c6) (.int .i64 98)).run Try.prog W' = .ok (.pointer (some ⟨g6, 98, none⟩)) W' := own_ix o7 Try.underlying46 one_u64 (j := 98) (by omega)
  have ix4 : ∀ W', (Instr.indexAt 46 (.slice (some ⟨g6, 0, none⟩) 256 c6) (.int .i64 99)).run Try.prog W' = .ok (.pointer (some ⟨g6, 99, none⟩)) W' := own_ix o7 Try.underlying46 one_u64 (j := 99) (by omega)
  have ix5 : ∀ W', (Instr.indexAt 46 (.slice (some ⟨g6, 0, none⟩) 256 c6) (.int .i64 111)).run Try.prog W' = .ok (.pointer (some ⟨g6, 111, none⟩)) W' := own_ix o7 Try.underlying46 one_u64 (j := 111) (by omega)
  have IX5 := Lib.hid ix5; clear ix5
  clear c_g1 f_g1 a_g1 d_g1 e_g1
  clear c_g2 f_g2 a_g2 d_g2 e_g2
  have ST := FFour.start (x1 := a) (x2 := b1) (x3 := c) (x4 := d) (gp := wa2.heap.size) (gq := wa4.heap.size) B o7 hl0 g1 g2
  have HST := Lib.hid ST; clear ST o7
  haveI : Nonempty (FXN (FFour w w.heap.size g6 c6 M a b1 c d wa2.heap.size wa4.heap.size 29 #[.int .u64 a.toNat, .int .u64 b1.toNat] #[.int .u64 c.toNat, .int .u64 d.toNat])) := ⟨⟨_, _, HST.out⟩⟩
  have k1 := fun x : FXN (FFour w w.heap.size g6 c6 M a b1 c d wa2.heap.size wa4.heap.size 29 #[.int .u64 a.toNat, .int .u64 b1.toNat] #[.int .u64 c.toNat, .int .u64 d.toNat]) => FFour.cell x
  have k2 := fun x : FXN (FFour w w.heap.size g6 c6 M a b1 c d wa2.heap.size wa4.heap.size 29 #[.int .u64 a.toNat, .int .u64 b1.toNat] #[.int .u64 c.toNat, .int .u64 d.toNat]) => FFour.cell2 x
  have hgn1 : wa2.heap.size ≠ g6 := by omega
  have hgn2 : wa4.heap.size ≠ g6 := by omega
  have HG := Lib.hid (And.intro hgn1 hgn2); clear hgn1 hgn2 hg1 hg2
  refine wp_region_N (FFour w w.heap.size g6 c6 M a b1 c d wa2.heap.size wa4.heap.size 29 #[.int .u64 a.toNat, .int .u64 b1.toNat] #[.int .u64 c.toNat, .int .u64 d.toNat]) [13, 15, 17, 19] FFour.dep (by kernel_rfl) (by kernel_rfl) (by kernel_rfl) HST.out ?_
  iterate 13 (refine wpN_read FFour.dep rfl (by decide) ?_; go_big_quiet_step (fail); refine wpQuiet_nil ?_)
  refine wpN_store FFour.dep 23 (.tmp 42) (.tmp 35) rfl rfl (p := .pointer (some ⟨g6, 96, none⟩)) (u := .int .u64 a.toNat) (by rfl) (by rfl) (FFour.step (by omega) HG.out.1 HG.out.2 fun f M' => cont_96) ?_
  simp only [Act.put, List.setIfInBounds_toArray, List.set_cons_zero, List.set_cons_succ]
  iterate 1 (refine wpN_read FFour.dep rfl (by decide) ?_; go_big_quiet_step (fail); refine wpQuiet_nil ?_)
  refine wpN_store FFour.dep 23 (.tmp 43) (.tmp 37) rfl rfl (p := .pointer (some ⟨g6, 97, none⟩)) (u := .int .u64 b1.toNat) (by rfl) (by rfl) (FFour.step (by omega) HG.out.1 HG.out.2 fun f M' => cont_97) ?_
  simp only [Act.put, List.setIfInBounds_toArray, List.set_cons_zero, List.set_cons_succ]
  iterate 1 (refine wpN_read FFour.dep rfl (by decide) ?_; go_big_quiet_step (fail); refine wpQuiet_nil ?_)
  refine wpN_store FFour.dep 23 (.tmp 44) (.tmp 39) rfl rfl (p := .pointer (some ⟨g6, 98, none⟩)) (u := .int .u64 c.toNat) (by rfl) (by rfl) (FFour.step (by omega) HG.out.1 HG.out.2 fun f M' => cont_98) ?_
  simp only [Act.put, List.setIfInBounds_toArray, List.set_cons_zero, List.set_cons_succ]
  iterate 1 (refine wpN_read FFour.dep rfl (by decide) ?_; go_big_quiet_step (fail); refine wpQuiet_nil ?_)
  refine wpN_store FFour.dep 23 (.tmp 45) (.tmp 41) rfl rfl (p := .pointer (some ⟨g6, 99, none⟩)) (u := .int .u64 d.toNat) (by rfl) (by rfl) (FFour.step (by omega) HG.out.1 HG.out.2 fun f M' => cont_99) ?_
  simp only [Act.put, List.setIfInBounds_toArray, List.set_cons_zero, List.set_cons_succ]
  intro w6 h6
  obtain ⟨B6, ⟨M', hM1, hM2, hM3⟩, _, _⟩ := h6
  rw [HM.out, HE.out.1.1, HE.out.1.2, HE.out.2.1, HE.out.2.2] at hM3
  obtain rfl := cont_all hM3
  replace o6 : OwnW w6 w.heap.size 23 (.slice (some ⟨g6, 0, none⟩) 256 c6) (fillT ex2 2) := by unfold OwnW; rw [hM1]; exact hM2
  replace B := B6
  clear hM3 hM2 hM1 B6 k1 k2 ix1 ix2 ix3 ix4 HST this HG o1 g1 g2
  have hg6 : g6 < w6.heap.size := own_lt o6 (by rw [fillT_len]; omega)
  go_wp2_with fail
  refine (KTable_any _ _ 2 ex2 0 ex2_ok.2.symm ex2_ok.1.symm _ o6.rd).mono ?_
  rintro e wa6 ⟨y1, rfl, o8, b⟩
  replace o6 := o6.below b; replace B := B.trans (b.mono B.size); clear b
  go_wp2_with fail
  refine (KTable_any _ _ 1 _ 50 rfl ex2_1.symm _ o6.rd).mono ?_
  rintro e wa7 ⟨y2, rfl, o9, b⟩
  replace o6 := o6.below b; replace o8 := o8.below b; replace B := B.trans (b.mono B.size); clear b
  clear o9
  go_wp2_with fail
  refine (KTable_any _ _ 3 _ 50 rfl ex2_3.symm _ o6.rd).mono ?_
  rintro e wa8 ⟨y3, rfl, o9, b⟩
  replace o6 := o6.below b; replace o8 := o8.below b; replace B := B.trans (b.mono B.size); clear b
  clear o9
  go_wp2_with fail
  refine (KTable_any _ _ 9 _ 2 rfl ex2_9.symm _ o6.rd).mono ?_
  rintro e wa9 ⟨y4, rfl, o9, b⟩
  replace o6 := o6.below b; replace o8 := o8.below b; replace B := B.trans (b.mono B.size); clear b
  clear o9
  go_wp2_with fail
  refine (KTable_any _ _ (-1) _ 2 rfl ex2_m.symm _ o6.rd).mono ?_
  rintro e wa10 ⟨y5, rfl, o9, b⟩
  replace o6 := o6.below b; replace o8 := o8.below b; replace B := B.trans (b.mono B.size); clear b
  clear o9
  obtain ⟨vc, rc, oc⟩ := Words.cutTo (P := Try.prog) o6.rd Try.underlying46 one_u64 (hi := 255) (by omega) (by rw [fillT_len]; omega)
  go_wp2_with fail
  refine (KTable_any vc ((fillT ex2 2).take 255) 9 _ 8 rfl ex2_cut.symm _ oc).mono ?_
  rintro e wa11 ⟨y6, rfl, o9, b⟩
  replace o6 := o6.below b; replace o8 := o8.below b; replace B := B.trans (b.mono B.size); clear b
  clear o9 rc oc
  have o7 : wa11.ownsRow w.heap.size 23 1 (.slice (some ⟨g6, 0, none⟩) 256 c6) 256 ((fillT ex2 2).map Go.Proofs.Ytnooiiojlkkpeaa.u64) := by have := o6; unfold OwnW at this; rwa [fillT_len] at this
  obtain ⟨⟨u0, c1⟩, c2, c3, c4, c5⟩ := own_put o7 (j := 111) (by omega) (.int .u64 1)
  have g7 := (o7.stored 111 (.int .u64 1)).2
  have ix5 := IX5.out
  have o8' := Lib.hid (o8.far g7 hg6)
  have B' := Lib.hid (B.setCell (p := ⟨g6, 111, none⟩) c4 (.int .u64 1))
  have C3 := Lib.hid c3
  clear g7 c3 o7
  go_wp2_with fail
  refine calls_gen (fun V => OwnW V w.heap.size 23 (.slice (some ⟨g6, 0, none⟩) 256 c6) ((fillT ex2 2).set 111 1) ∧ OwnT V w6.heap.size y1 ex2 ∧ Below w.heap.size w V) ⟨OwnW.of C3.out (by rw [List.map_set]; rfl), o8'.out, B'.out⟩ ?_
  rintro wx ⟨o10, o11, BX⟩
  clear C3 o8' B' c1 c2 ix5 o8 o6
  replace B := BX; clear BX
  go_wp2_with fail
  refine (KTable_any _ _ 2 _ 50 rfl ex2_set.symm _ o10.rd).mono ?_
  rintro e wa12 ⟨y7, rfl, o9, b⟩
  replace o11 := o11.below b; replace B := B.trans (b.mono B.size); clear b
  clear o9
  go_wp2_with fail
  refine (example13_any _).mono ?_
  rintro e wa13 ⟨x9, rfl, o9, b⟩
  replace o11 := o11.below b; replace B := B.trans (b.mono B.size); clear b
  obtain ⟨yA, yc, hy, _⟩ := OwnB.rd o9
  have hy' : x9 = .slice yA 3 yc := hy
  subst hy'
  go_wp2_with fail
  refine calls_gen (fun Wv => Bx Wv (wa13.heap.size) (22) (#[.slice yA 3 yc, .slice none 0 0]) ∧ Below wa13.heap.size wa13 Wv) ⟨((Bx.at_ (by simp))), ((Below.refl _ wa13).alloc (by simp <;> omega) _)⟩ ?_
  rintro wa14 ⟨g9, b⟩
  replace o11 := o11.below b; replace o9 := o9.below b; replace B := B.trans (b.mono B.size); clear b
  have c_g9 := g9.cell; have f_g9 := g9.free; have a_g9 := fun o => (g9.alloc o).cell; have d_g9 := fun o o2 => ((g9.alloc o).alloc o2).cell; have e_g9 := fun o => (g9.alloc o).free
  refine (SameT_any y1 _ ex2 ex2 true (by simp) _ o11.rd ⟨[.slice yA 3 yc, .slice none 0 0], rfl, lit_part g9 rfl (by simp [ex2]) (by simp), fun i x l h5 h6 => ?_⟩).mono ?_
  · rcases i with _ | _ | i
    · simp [ex2] at h5 h6; subst h5 h6; exact o9.rd
    · simp [ex2] at h5 h6; subst h5 h6; exact Rd.nil _ _
    · simp at h5
  rintro e w9 ⟨rfl, b⟩
  replace B := B.trans (b.mono B.size)
  go_wp2
  go_ret
  exact ⟨rfl, B⟩
end Go.Proofs.Ytnooiiojlkkpeaa
