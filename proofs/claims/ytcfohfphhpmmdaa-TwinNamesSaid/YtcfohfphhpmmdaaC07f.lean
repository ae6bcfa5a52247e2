/- Contracts of the laws' own functions on two copies of the superblock. -/
import Derived.Test.YtcfohfphhpmmdaaC07e
set_option linter.unusedVariables false
set_option linter.unusedSimpArgs false
namespace Go.Proofs.Ytcfohfphhpmmdaa
open Go.RowKit L02 L05 L06 L07

theorem run_lit0 {P : Program} {t e : TypeId} (W : World) (ht : P.underlying t = some (.slice e)) (hi : (P.info? e).isSome = true) : (Instr.buildSlice t 0 #[]).run P W = .ok (.slice (some ⟨W.heap.size, 0, none⟩) 0 0) (W.alloc (.cells #[] e)) := by
  obtain ⟨i, hi'⟩ := Option.isSome_iff_exists.1 hi
  simp [Instr.buildSlice, run_underlying ht, sizeOf, typeInfo, hi', go_sem]

set_option maxRecDepth 100000 in
set_option maxHeartbeats 2000000 in
theorem with_any (W T : Int) (hok : SupOk W T) (w : World) : Calls Try.prog 19 #[.agg #[.int .i64 W, .int .i64 T]] w fun e w' => ∃ v, e = .returned (.tuple #[v, .bool true]) ∧ OwnW w' w.heap.size 50 v (made W T) ∧ Below w.heap.size w w' := by
  have B : Below w.heap.size w w := Below.refl _ _
  have hn : newErr W = 0 := if_pos hok.1
  have hnw : new W = List.replicate W.toNat 0 := if_pos hok.1
  have hwr : wordsOf W T = write W T := (if_pos hok).symm
  have hse : supErr W T = 0 := if_pos hok
  have WT := Lib.hid (fun w => Write6_r W T (wordsOf W T) 0 hwr hse.symm w)
  have NT := Lib.hid (fun w => New_any W w)
  obtain ⟨L, hL⟩ : ∃ L, L = wordsOf W T := ⟨_, rfl⟩
  obtain ⟨Z, hZ⟩ : ∃ Z, Z = new W := ⟨_, rfl⟩
  rw [← hL] at WT
  rw [hn, ← hZ] at NT
  have hLl : L.length = 8 := by rw [hL]; exact len_words W T
  have hZl : Z.length = W.toNat := by rw [hZ, hnw, List.length_replicate]
  have h256 := hok.1.1; have h2048 := hok.1.2.1
  have HM := Lib.hid (show made W T = L ++ (L ++ Z.drop 16) by rw [made, hL, hZ, hnw, List.drop_replicate])
  clear hn hnw hwr hse hok hL hZ
  obtain ⟨D, hD⟩ : ∃ D, D = Z.drop 16 := ⟨_, rfl⟩
  have hDl : D.length ≤ 2048 := by rw [hD]; simp; omega
  go_enter Try.func19, Try.ntmps19
  go_upto_region 1 with (fail)
  refine wp_gen (fun Wv => Bx Wv (w.heap.size) (26) (#[.int .i64 W, .int .i64 T]) ∧ Below w.heap.size w Wv) ⟨((Bx.at_ (by simp))), ((Below.refl _ w).alloc (by simp <;> omega) _)⟩ ?_
  rintro wa1 ⟨g1, b⟩
  replace B := B.trans (b.mono B.size); clear b
  have c_g1 := g1.cell; have f_g1 := g1.free; have a_g1 := fun o => (g1.alloc o).cell; have d_g1 := fun o o2 => ((g1.alloc o).alloc o2).cell; have e_g1 := fun o => (g1.alloc o).free
  go_wp2_with fail
  refine (NT.out _).mono ?_
  rintro e wx ⟨z, rfl, o1, b⟩
  have oz := o1.rd
  replace g1 := g1.below b; replace B := B.trans (b.mono B.size)
  clear o1 b c_g1 f_g1 a_g1 d_g1 e_g1
  have c_g1 := g1.cell
  go_wp2_with fail
  refine (WT.out _).mono ?_
  rintro e wy ⟨x, rfl, ⟨E, o2⟩, b⟩
  have ox := o2.rd
  replace oz := oz.below b; replace B := B.trans (b.mono B.size)
  clear o2 b g1 c_g1
  have lz := Rd.len oz Try.underlying22
  have lx := Rd.len ox Try.underlying22
  rw [hZl] at lz
  rw [hLl] at lx
  obtain ⟨dv, sl, hdv⟩ := oz.cutFrom (P := Try.prog) Try.underlying22 one_u64 (lo := 16) (by omega) (by omega)
  replace hdv : Words wy dv D := by rw [hD]; exact hdv
  have hzz : ¬ ((W.toNat : Nat) : Int) < 16 := by omega
  have OX := Lib.hid ox; have HD := Lib.hid hdv; have HB := Lib.hid B
  clear ox hdv B oz
  go_upto_region 5 with (fail)
  -- the four worlds
  have b1 : Below wy.heap.size wy (wy.drew.alloc (.cells #[] 50)) := ((Below.refl _ wy).drew).alloc (Nat.le_refl _) _
  obtain ⟨v2, W2, r2, o2, gr2⟩ := run_append_rd (P := Try.prog) (w := wy.drew.alloc (.cells #[] 50)) (ty := 22) Try.underlying22 info_u64 rfl (by omega) (lit0_own (B := wy.heap.size) (w := wy.drew) (e := 50) (sz := 1) (Nat.le_refl _)) (OX.out.below b1) (one_u64s _) (by omega) (by omega) b1.size
  have b2 : Below wy.heap.size wy W2 := b1.grown gr2 b1.size (fun k hk => (lit0_own (B := wy.heap.size) (w := wy.drew) (e := 50) (sz := 1) (Nat.le_refl _) |>.lt k hk).1)
  obtain ⟨v3, W3, r3, o3, gr3⟩ := run_append_rd (P := Try.prog) (w := W2) (ty := 22) Try.underlying22 info_u64 rfl (by omega) o2 (OX.out.below b2) (one_u64s _) (by omega) (by omega) b2.size
  have b3 : Below wy.heap.size wy W3 := b2.grown gr3 b2.size (fun k hk => (o2.lt k hk).1)
  obtain ⟨v4, W4, r4, o4, gr4⟩ := run_append_rd (P := Try.prog) (w := W3) (ty := 22) Try.underlying22 info_u64 rfl (by omega) o3 (HD.out.below b3) (one_u64s _) (by omega) (by omega) b3.size
  have b4 : Below wy.heap.size wy W4 := b3.grown gr4 b3.size (fun k hk => (o3.lt k hk).1)
  have r1 := run_lit0 (P := Try.prog) (t := 22) (e := 50) wy.drew Try.underlying22 (by kernel_rfl)
  have e4 : OwnW W4 wy.heap.size 50 v4 (made W T) := OwnW.of o4 (by rw [HM.out, ← hD]; simp)
  replace r1 : (Instr.buildSlice 22 0 #[]).run Try.prog wy.drew = .ok (.slice (some ⟨wy.heap.size, 0, none⟩) 0 0) (wy.drew.alloc (.cells #[] 50)) := r1
  replace r2 : (Builtin.append_ #[22, 22] 22 #[.slice (some ⟨wy.heap.size, 0, none⟩) 0 0, x]).run Try.prog (wy.drew.alloc (.cells #[] 50)) = .ok v2 W2 := r2
  have O4 := Lib.hid e4; have B4 := Lib.hid b4
  clear o2 o3 o4 gr2 gr3 gr4 b1 b2 b3 b4 e4
  haveI : Nonempty (FXN (FCh 0 2 4 7 wy.drew (wy.drew.alloc (.cells #[] 50)) W2 W3 W4)) := ⟨⟨_, _, FCh.start⟩⟩
  refine wp_region_N (FCh 0 2 4 7 wy.drew (wy.drew.alloc (.cells #[] 50)) W2 W3 W4) [0, 2, 4, 7] FCh.dep (by kernel_rfl) (by kernel_rfl) (by kernel_rfl) FCh.start ?_
  refine wpN_step FCh.dep rfl (by rfl) (v := .slice (some ⟨wy.heap.size, 0, none⟩) 0 0) [] (by kernel_rfl) (fun f W hF h0 h1 => ?_) ?_
  · obtain ⟨rfl, h2⟩ := FCh.s1 (by decide) hF h0
    exact ⟨_, by simp [execOp, r1], h2⟩
  simp only [Act.put, List.setIfInBounds_toArray, List.set_cons_zero, List.set_cons_succ]
  iterate 1 (refine wpN_read FCh.dep rfl (by decide) ?_; go_big_quiet_step (fail); refine wpQuiet_nil ?_)
  refine wpN_step FCh.dep rfl (by rfl) (v := v2) [0] (by kernel_rfl) (fun f W hF h0 h1 => ?_) ?_
  · obtain ⟨rfl, h2⟩ := FCh.s2 (by decide) hF h0 (h1 0 (by simp))
    exact ⟨_, by simp [execOp, resolve, invoke, builtin, Act.eval, r2], h2⟩
  simp only [Act.put, List.setIfInBounds_toArray, List.set_cons_zero, List.set_cons_succ]
  iterate 1 (refine wpN_read FCh.dep rfl (by decide) ?_; go_big_quiet_step (fail); refine wpQuiet_nil ?_)
  refine wpN_step FCh.dep rfl (by rfl) (v := v3) [2] (by kernel_rfl) (fun f W hF h0 h1 => ?_) ?_
  · obtain ⟨rfl, h2⟩ := FCh.s3 (by decide) hF h0 (h1 2 (by simp))
    exact ⟨_, by simp [execOp, resolve, invoke, builtin, Act.eval, r3], h2⟩
  simp only [Act.put, List.setIfInBounds_toArray, List.set_cons_zero, List.set_cons_succ]
  iterate 1 (refine wpN_read FCh.dep rfl (by decide) ?_; go_big_quiet_step (fail); refine wpQuiet_nil ?_)
  refine wpN_pure FCh.dep (by decide) rfl (v := dv) (fun W => by simp [execOp, Act.eval, sl]) ?_
  simp only [Act.put, List.setIfInBounds_toArray, List.set_cons_zero, List.set_cons_succ]
  refine wpN_step FCh.dep rfl (by rfl) (v := v4) [4] (by kernel_rfl) (fun f W hF h0 h1 => ?_) ?_
  · obtain ⟨rfl, h2⟩ := FCh.s4 (by decide) hF h0 (h1 4 (by simp))
    exact ⟨_, by simp [execOp, resolve, invoke, builtin, Act.eval, r4], h2⟩
  simp only [Act.put, List.setIfInBounds_toArray, List.set_cons_zero, List.set_cons_succ]
  iterate 2 (refine wpN_read FCh.dep rfl (by decide) ?_; go_big_quiet_step (fail); refine wpQuiet_nil ?_)
  intro W5 hW5
  obtain rfl := FCh.done hW5
  clear hW5 r1 r2 r3 r4
  go_wp2
  go_ret2
  exact ⟨_, rfl, own_mono O4.out HB.out.size, HB.out.trans (B4.out.mono HB.out.size)⟩
end Go.Proofs.Ytcfohfphhpmmdaa
