/- The walk of the law HandlesWords. -/
import Derived.Test.YteiocllnhljpjaaC18b
set_option linter.unusedVariables false
set_option linter.unusedSimpArgs false
namespace Go.Proofs.Yteiocllnhljpjaa
open Go.RowKit L01 L02 L18

set_option maxHeartbeats 1000000 in
theorem HandlesWords_walk (s : Sl) (x : UInt64) (w : World) : Calls Try.prog 3 #[.agg #[.int .i64 s.gen, .bool s.used, .int .i64 s.at_], .int .u64 x.toNat] w fun e w' => e = .returned (.bool true) ∧ Below w.heap.size w w' := by
  have B : Below w.heap.size w w := Below.refl _ _
  obtain ⟨a, ha⟩ : ∃ a, a = word s := ⟨_, rfl⟩
  obtain ⟨e1, he1⟩ : ∃ r, r = wordErr s := ⟨_, rfl⟩
  obtain ⟨c, hc⟩ : ∃ r, r = spl0 x := ⟨_, rfl⟩
  obtain ⟨e2, he2⟩ : ∃ r, r = splErr x := ⟨_, rfl⟩
  have HA := Lib.hid ha; have HE := Lib.hid he1; have HC := Lib.hid hc; have HE2 := Lib.hid he2; clear ha he1 hc he2
  have q1 := fun W => slot_eql c c true (by simp) W
  go_enter Try.func3, Try.ntmps3
  go_wp2_with fail
  refine calls_gen (fun V => Bx V (w.heap.size) (23) (#[.int .i64 s.gen, .bool s.used, .int .i64 s.at_]) ∧ Below w.heap.size w V) ⟨((Bx.at_ (by simp))), ((Below.refl _ w).alloc (by simp <;> omega) _)⟩ ?_
  rintro w' ⟨g1, b⟩
  replace B := B.trans (b.mono B.size); clear b
  have c_g1 := g1.cell; have f_g1 := g1.free; have a_g1 := fun o => (g1.alloc o).cell; have d_g1 := fun o o2 => ((g1.alloc o).alloc o2).cell
  go_wp2_with fail
  refine (Word_r s a e1 HA.out HE.out _).mono ?_
  rintro e w' ⟨rfl, b⟩
  try clear c_g1 f_g1 a_g1 d_g1
  replace g1 := g1.below b; have c_g1 := g1.cell; have f_g1 := g1.free; have a_g1 := fun o => (g1.alloc o).cell; have d_g1 := fun o o2 => ((g1.alloc o).alloc o2).cell; replace B := B.trans (b.mono B.size); clear b
  go_wp2_with fail
  refine (WordR_r s a e1 HA.out HE.out _).mono ?_
  rintro e w' ⟨rfl, b⟩
  try clear c_g1 f_g1 a_g1 d_g1
  replace g1 := g1.below b; have c_g1 := g1.cell; have f_g1 := g1.free; have a_g1 := fun o => (g1.alloc o).cell; have d_g1 := fun o o2 => ((g1.alloc o).alloc o2).cell; replace B := B.trans (b.mono B.size); clear b
  go_wp2_with fail
  refine (Split_r x c e2 HC.out HE2.out _).mono ?_
  rintro e w' ⟨rfl, b⟩
  try clear c_g1 f_g1 a_g1 d_g1
  replace g1 := g1.below b; have c_g1 := g1.cell; have f_g1 := g1.free; have a_g1 := fun o => (g1.alloc o).cell; have d_g1 := fun o o2 => ((g1.alloc o).alloc o2).cell; replace B := B.trans (b.mono B.size); clear b
  go_wp2_with fail
  refine calls_gen (fun V => Bx V (w'.heap.size) (23) (#[.int .i64 c.gen, .bool c.used, .int .i64 c.at_]) ∧ Below w'.heap.size w' V) ⟨((Bx.at_ (by simp))), ((Below.refl _ w').alloc (by simp <;> omega) _)⟩ ?_
  rintro w' ⟨g2, b⟩
  try clear c_g1 f_g1 a_g1 d_g1
  replace g1 := g1.below b; have c_g1 := g1.cell; have f_g1 := g1.free; have a_g1 := fun o => (g1.alloc o).cell; have d_g1 := fun o o2 => ((g1.alloc o).alloc o2).cell; replace B := B.trans (b.mono B.size); clear b
  have c_g2 := g2.cell; have f_g2 := g2.free; have a_g2 := fun o => (g2.alloc o).cell; have d_g2 := fun o o2 => ((g2.alloc o).alloc o2).cell
  go_wp2_with fail
  refine (SplitR_r x c e2 HC.out HE2.out _).mono ?_
  rintro e w' ⟨rfl, b⟩
  try clear c_g1 f_g1 a_g1 d_g1
  replace g1 := g1.below b; have c_g1 := g1.cell; have f_g1 := g1.free; have a_g1 := fun o => (g1.alloc o).cell; have d_g1 := fun o o2 => ((g1.alloc o).alloc o2).cell; try clear c_g2 f_g2 a_g2 d_g2
  replace g2 := g2.below b; have c_g2 := g2.cell; have f_g2 := g2.free; have a_g2 := fun o => (g2.alloc o).cell; have d_g2 := fun o o2 => ((g2.alloc o).alloc o2).cell; replace B := B.trans (b.mono B.size); clear b
  go_wp2
  go_ret
  exact ⟨rfl, B.alloc B.size _⟩
end Go.Proofs.Yteiocllnhljpjaa
