/- Contracts of the laws' own functions on types. -/
import Derived.Test.YtnooiiojlkkpeaaC13d
import Derived.Test.YtnooiiojlkkpeaaFlag
set_option linter.unusedVariables false
set_option linter.unusedSimpArgs false
namespace Go.Proofs.Ytnooiiojlkkpeaa
open Go.RowKit L02 L05 L13

theorem example13_any (w : World) : Calls Try.prog 31 #[] w fun e w' => ∃ x, e = .returned x ∧ OwnB w' w.heap.size 5 x [1, 2, 3] ∧ Below w.heap.size w w' := by
  have B : Below w.heap.size w w := Below.refl _ _
  go_enter Try.func31, Try.ntmps31
  go_wp2
  go_ret
  exact ⟨_, rfl, lit_ownB [1, 2, 3] rfl (Nat.le_refl _) rfl rfl (by simp), B.alloc B.size _⟩

theorem example13_at (w : World) : Calls Try.prog 31 #[] w fun e w' => e = .returned (.slice (some ⟨w.heap.size, 0, none⟩) 3 3) ∧ Bx w' w.heap.size 5 #[.int .u8 1, .int .u8 2, .int .u8 3] ∧ Below w.heap.size w w' := by
  have B : Below w.heap.size w w := Below.refl _ _
  go_enter Try.func31, Try.ntmps31
  go_wp2
  go_ret
  exact ⟨rfl, Bx.new _ _ _, B.alloc B.size _⟩
theorem enter_example13 (W : World) : (callFunc 31 (#[] ++ #[] ++ #[])).run Try.prog W = .ok (.enter 31 #[]) W := by
  simp [go_sem]

set_option maxHeartbeats 2000000 in
theorem alive13_any (w : World) : Calls Try.prog 18 #[] w fun e w' => e = .returned (.bool true) ∧ Below w.heap.size w w' := by
  have B : Below w.heap.size w w := Below.refl _ _
  obtain ⟨a, ha⟩ : ∃ a, a = w0 [1, 2, 3] := ⟨_, rfl⟩
  obtain ⟨b, hb⟩ : ∃ b, b = w1 [1, 2, 3] := ⟨_, rfl⟩
  have an : a.toNat = 14595 := by rw [ha]; decide +kernel
  have WT := fun v w h => KWrite_any v [1, 2, 3] a b 0 ha hb (by decide) w h
  have ST := fun v w h => KSize_any v [1, 2, 3] 6 0 (by decide) (by decide) w h
  have hk : kErr [1, 2, 3] = 0 := by decide
  obtain ⟨h1, h2⟩ := rd_of_write hk
  rw [← ha, ← hb] at h1 h2
  have RT := fun w => KRead_any a b [1, 2, 3] 0 h2.symm (by rw [rdE, if_pos h1]) w
  rw [an] at WT RT
  have HW := Lib.hid WT; have HS := Lib.hid ST; have HR := Lib.hid RT
  clear WT ST RT ha hb an hk h1 h2
  have q1 := fun W => str_eql (P := Try.prog) (t := 9) [1, 2, 3] [1, 2, 3] true (by decide) W
  go_enter Try.func18, Try.ntmps18
  go_wp2_with fail
  refine (example13_any _).mono ?_
  rintro e wa1 ⟨x1, rfl, o1, b⟩
  replace B := B.trans (b.mono B.size); clear b
  go_wp2_with fail
  refine (HW.out _ _ o1.rd).mono ?_
  rintro e wa2 ⟨rfl, b⟩
  replace o1 := o1.below b; replace B := B.trans (b.mono B.size); clear b
  go_wp2_with fail
  refine calls_gen (fun Wv => Bx Wv (wa2.heap.size) (29) (#[.int .u64 ((14595 : Nat) : Int), .int .u64 b.toNat]) ∧ Below wa2.heap.size wa2 Wv) ⟨((Bx.at_ (by simp))), ((Below.refl _ wa2).alloc (by simp <;> omega) _)⟩ ?_
  rintro wa3 ⟨g1, b⟩
  replace o1 := o1.below b; replace B := B.trans (b.mono B.size); clear b
  have c_g1 := g1.cell; have f_g1 := g1.free; have a_g1 := fun o => (g1.alloc o).cell; have d_g1 := fun o o2 => ((g1.alloc o).alloc o2).cell; have e_g1 := fun o => (g1.alloc o).free
  go_wp2_with fail
  refine (example13_any _).mono ?_
  rintro e wa4 ⟨x2, rfl, o2, b⟩
  replace o1 := o1.below b; try clear c_g1 f_g1 a_g1 d_g1 e_g1
  replace g1 := g1.below b; have c_g1 := g1.cell; have f_g1 := g1.free; have a_g1 := fun o => (g1.alloc o).cell; have d_g1 := fun o o2 => ((g1.alloc o).alloc o2).cell; have e_g1 := fun o => (g1.alloc o).free; replace B := B.trans (b.mono B.size); clear b
  go_wp2_with fail
  refine (HS.out _ _ o2.rd).mono ?_
  rintro e w2 ⟨rfl, rfl⟩
  go_wp2_with fail
  refine (HR.out _).mono ?_
  rintro e wa5 ⟨x3, rfl, o3, b⟩
  replace o1 := o1.below b; try clear c_g1 f_g1 a_g1 d_g1 e_g1
  replace g1 := g1.below b; have c_g1 := g1.cell; have f_g1 := g1.free; have a_g1 := fun o => (g1.alloc o).cell; have d_g1 := fun o o2 => ((g1.alloc o).alloc o2).cell; have e_g1 := fun o => (g1.alloc o).free; replace o2 := o2.below b; replace B := B.trans (b.mono B.size); clear b
  go_wp2
  have i0 : wa5.cell? ⟨wa2.heap.size, 0, none⟩ = some (.int .u64 14595) := g1.cell 0
  have j0 := fun x : FX (FNew wa5 5 #[.int .u8 1, .int .u8 2, .int .u8 3]) => cell_later (FNew.below x) i0
  have s3 := fun x : FX (FNew wa5 5 #[.int .u8 1, .int .u8 2, .int .u8 3]) => (o3.rd.below (FNew.below x)).str (P := Try.prog) (dst := 9) Try.underlying22 Try.underlying5 Try.underlying9
  have s4 := fun x : FX1 (FNew wa5 5 #[.int .u8 1, .int .u8 2, .int .u8 3]) => Byts.str (P := Try.prog) (src := 22) (dst := 9) (bx_byts (n := 3) (c := 3) [1, 2, 3] (FNew.below1 x).2 rfl rfl rfl (by decide)) Try.underlying22 Try.underlying5 Try.underlying9
  clear c_g1 f_g1 a_g1 d_g1 e_g1
  refine wp_region_flag (FNew wa5 5 #[.int .u8 1, .int .u8 2, .int .u8 3]) 22 99 (by kernel_rfl) (by kernel_rfl) true false ⟨by kernel_rfl, by kernel_rfl⟩ (FNew.start _ _ _) ?_
  iterate 22 (refine wpF_read rfl rfl ?_; go_big_quiet_step (fail); refine wpQuiet_nil ?_)
  refine wpF_call1 #[] (.slice (some ⟨wa5.heap.size, 0, none⟩) 3 3) rfl (by decide) (by simp) (fun W => enter_example13 W) (FNew.call fun W => example13_at W) ?_
  simp only [Act.put, List.setIfInBounds_toArray, List.set_cons_zero, List.set_cons_succ]
  iterate 1 (refine wpF_read1 rfl rfl rfl (by kernel_rfl) ?_; go_big_quiet_step (fail); refine wpQuiet_nil ?_)
  iterate 3 (refine wpF_read rfl rfl ?_; go_big_quiet_step (fail); refine wpQuiet_nil ?_)
  intro w6 h6
  replace B := B.trans (h6.1.mono B.size)
  go_wp2
  go_ret
  exact ⟨rfl, B⟩
end Go.Proofs.Ytnooiiojlkkpeaa
