/- The walks of the laws HandlesCalls, HandlesOne. -/
import Derived.Test.YteiocllnhljpjaaC18j
set_option linter.unusedVariables false
set_option linter.unusedSimpArgs false
namespace Go.Proofs.Yteiocllnhljpjaa
open Go.RowKit L01 L02 L18

set_option maxRecDepth 100000 in
set_option maxHeartbeats 4000000 in
theorem HandlesCalls_walk (v0 : Value) (l : List UInt64) (sl g a : Int) (w : World) (h0 : Words w v0 l) (f1 : -9223372036854775808 ≤ sl ∧ sl ≤ 9223372036854775807) (f2 : -9223372036854775808 ≤ g ∧ g ≤ 9223372036854775807) (f3 : -9223372036854775808 ≤ a ∧ a ≤ 9223372036854775807) :
    Calls Try.prog 5 #[v0, .agg #[.int .i64 sl, .int .i64 g], .int .i64 a] w fun e w' => e = .returned (.bool true) ∧ Below w.heap.size w w' := by
  clear f1 f2 f3
  have B : Below w.heap.size w w := Below.refl _ _
  have H := Lib.hid h0; clear h0
  by_cases hbig : 2100 < l.length
  · skip
    go_enter Try.func5, Try.ntmps5
    go_upto_region 1 with (fail)
    refine wp_gen (fun Wv => Bx Wv (w.heap.size) (39) (#[.int .i64 sl, .int .i64 g]) ∧ Below w.heap.size w Wv) ⟨((Bx.at_ (by simp))), ((Below.refl _ w).alloc (by simp <;> omega) _)⟩ ?_
    rintro w' ⟨g1, b⟩
    replace B := B.trans (b.mono B.size); clear b
    have c_g1 := g1.cell; have f_g1 := g1.free; have a_g1 := fun o => (g1.alloc o).cell; have d_g1 := fun o o2 => ((g1.alloc o).alloc o2).cell; have e_g1 := fun o => (g1.alloc o).free
    go_wp2_with fail
    refine (Great_any _ _ _ (H.out.below B)).mono ?_
    rw [decide_eq_true hbig]
    rintro e w' ⟨rfl, rfl⟩
    go_wp2
    go_ret
    exact ⟨rfl, B⟩
  have hsm : l.length ≤ 2100 := by omega
  obtain ⟨L, hL⟩ : ∃ L, L = all l := ⟨_, rfl⟩
  obtain ⟨r1, hr1⟩ : ∃ r, r = openErr l := ⟨_, rfl⟩
  obtain ⟨n, hn⟩ : ∃ r, r = res l sl g := ⟨_, rfl⟩
  obtain ⟨r2, hr2⟩ : ∃ r, r = resErr l sl g := ⟨_, rfl⟩
  obtain ⟨s1, k1⟩ : ∃ r, r = newSlot l a := ⟨_, rfl⟩
  obtain ⟨s2, k2⟩ : ∃ r, r = newGen l a := ⟨_, rfl⟩
  obtain ⟨s3, k3⟩ : ∃ r, r = newAt l a := ⟨_, rfl⟩
  obtain ⟨s4, k4⟩ : ∃ r, r = newVal l a := ⟨_, rfl⟩
  obtain ⟨s5, k5⟩ : ∃ r, r = L18.newErr l a := ⟨_, rfl⟩
  obtain ⟨d1, k6⟩ : ∃ r, r = dropAt l sl g := ⟨_, rfl⟩
  obtain ⟨d2, k7⟩ : ∃ r, r = dropVal l sl g := ⟨_, rfl⟩
  have HK := Lib.hid (And.intro hL (And.intro hr1 (And.intro hn (And.intro hr2 (And.intro k1 (And.intro k2 (And.intro k3 (And.intro k4 (And.intro k5 (And.intro k6 k7))))))))))
  have A1 := fun v w h => All18_any v l L r1 hL hr1 w h
  have A2 := fun v w h => AllR_any v l L r1 hL hr1 w h
  have A3 := fun v w h => Resolve_any v l sl g n r2 hn hr2 w h
  have A4 := fun v w h => ResolveR_any v l sl g n r2 hn hr2 w h
  have A5 := fun v w h => New18_any v l a s1 s2 s3 s4 s5 k1 k2 k3 k4 k5 w h
  have A6 := fun v w h => NewR18_any v l a s1 s2 s3 s4 s5 k1 k2 k3 k4 k5 w h
  have A7 := fun v w h => Drop18_any v l sl g d1 d2 r2 k6 k7 hr2 w h
  have A8 := fun v w h => DropR18_any v l sl g d1 d2 r2 k6 k7 hr2 w h
  have H1 := Lib.hid A1; have H2 := Lib.hid A2; have H3 := Lib.hid A3; have H4 := Lib.hid A4; have H5 := Lib.hid A5; have H6 := Lib.hid A6; have H7 := Lib.hid A7; have H8 := Lib.hid A8
  clear A1 A2 A3 A4 A5 A6 A7 A8 hL hr1 hn hr2 k1 k2 k3 k4 k5 k6 k7
  have q1 := fun W => hdl_eql s1 s2 s1 s2 true (by simp) W
  have q2 := fun W => ent_eql s3 s3 s4 s4 true (by simp) W
  have q3 := fun W => ent_eql d1 d1 d2 d2 true (by simp) W
  go_enter Try.func5, Try.ntmps5
  go_upto_region 1 with (fail)
  refine wp_gen (fun Wv => Bx Wv (w.heap.size) (39) (#[.int .i64 sl, .int .i64 g]) ∧ Below w.heap.size w Wv) ⟨((Bx.at_ (by simp))), ((Below.refl _ w).alloc (by simp <;> omega) _)⟩ ?_
  rintro w' ⟨g1, b⟩
  replace B := B.trans (b.mono B.size); clear b
  have c_g1 := g1.cell; have f_g1 := g1.free; have a_g1 := fun o => (g1.alloc o).cell; have d_g1 := fun o o2 => ((g1.alloc o).alloc o2).cell; have e_g1 := fun o => (g1.alloc o).free
  go_wp2_with fail
  refine (Great_any _ _ _ (H.out.below B)).mono ?_
  rw [decide_eq_false hbig]
  rintro e w' ⟨rfl, rfl⟩
  go_wp2_with fail
  refine (Twin_any _ _ _ (H.out.below B) (by omega)).mono ?_
  rintro e w' ⟨x1, rfl, o1, b⟩
  try clear c_g1 f_g1 a_g1 d_g1 e_g1
  replace g1 := g1.below b; have c_g1 := g1.cell; have f_g1 := g1.free; have a_g1 := fun o => (g1.alloc o).cell; have d_g1 := fun o o2 => ((g1.alloc o).alloc o2).cell; have e_g1 := fun o => (g1.alloc o).free; replace B := B.trans (b.mono B.size); clear b
  go_wp2_with fail
  refine (H1.out _ _ (H.out.below B)).mono ?_
  rintro e w' ⟨x2, E2, rfl, o2, b⟩
  try clear c_g1 f_g1 a_g1 d_g1 e_g1
  replace g1 := g1.below b; have c_g1 := g1.cell; have f_g1 := g1.free; have a_g1 := fun o => (g1.alloc o).cell; have d_g1 := fun o o2 => ((g1.alloc o).alloc o2).cell; have e_g1 := fun o => (g1.alloc o).free; replace o1 := o1.below b; replace B := B.trans (b.mono B.size); clear b
  go_wp2_with fail
  refine (H2.out _ _ o1.rd).mono ?_
  rintro e w' ⟨x3, E3, rfl, o3, b⟩
  try clear c_g1 f_g1 a_g1 d_g1 e_g1
  replace g1 := g1.below b; have c_g1 := g1.cell; have f_g1 := g1.free; have a_g1 := fun o => (g1.alloc o).cell; have d_g1 := fun o o2 => ((g1.alloc o).alloc o2).cell; have e_g1 := fun o => (g1.alloc o).free; replace o1 := o1.below b; replace o2 := o2.below b; replace B := B.trans (b.mono B.size); clear b
  go_wp2_with fail
  refine (H3.out _ _ (H.out.below B)).mono ?_
  rintro e w' ⟨rfl, b⟩
  try clear c_g1 f_g1 a_g1 d_g1 e_g1
  replace g1 := g1.below b; have c_g1 := g1.cell; have f_g1 := g1.free; have a_g1 := fun o => (g1.alloc o).cell; have d_g1 := fun o o2 => ((g1.alloc o).alloc o2).cell; have e_g1 := fun o => (g1.alloc o).free; replace o1 := o1.below b; replace o2 := o2.below b; replace o3 := o3.below b; replace B := B.trans (b.mono B.size); clear b
  go_wp2_with fail
  refine (H4.out _ _ o1.rd).mono ?_
  rintro e w' ⟨rfl, b⟩
  try clear c_g1 f_g1 a_g1 d_g1 e_g1
  replace g1 := g1.below b; have c_g1 := g1.cell; have f_g1 := g1.free; have a_g1 := fun o => (g1.alloc o).cell; have d_g1 := fun o o2 => ((g1.alloc o).alloc o2).cell; have e_g1 := fun o => (g1.alloc o).free; replace o1 := o1.below b; replace o2 := o2.below b; replace o3 := o3.below b; replace B := B.trans (b.mono B.size); clear b
  go_wp2_with fail
  refine (H5.out _ _ (H.out.below B)).mono ?_
  rintro e w' ⟨rfl, b⟩
  try clear c_g1 f_g1 a_g1 d_g1 e_g1
  replace g1 := g1.below b; have c_g1 := g1.cell; have f_g1 := g1.free; have a_g1 := fun o => (g1.alloc o).cell; have d_g1 := fun o o2 => ((g1.alloc o).alloc o2).cell; have e_g1 := fun o => (g1.alloc o).free; replace o1 := o1.below b; replace o2 := o2.below b; replace o3 := o3.below b; replace B := B.trans (b.mono B.size); clear b
  go_wp2_with fail
  refine calls_gen (fun Wv => Bx Wv (w'.heap.size) (39) (#[.int .i64 s1, .int .i64 s2]) ∧ Bx Wv (w'.heap.size + 1) (52) (#[.int .i64 s3, .int .u64 s4.toNat]) ∧ Below w'.heap.size w' Wv) ⟨(((Bx.at_ (by simp)).alloc _)), ((Bx.at_ (by simp))), (((Below.refl _ w').alloc (by simp <;> omega) _).alloc (by simp <;> omega) _)⟩ ?_
  rintro w' ⟨g2, g3, b⟩
  try clear c_g1 f_g1 a_g1 d_g1 e_g1
  replace g1 := g1.below b; have c_g1 := g1.cell; have f_g1 := g1.free; have a_g1 := fun o => (g1.alloc o).cell; have d_g1 := fun o o2 => ((g1.alloc o).alloc o2).cell; have e_g1 := fun o => (g1.alloc o).free; replace o1 := o1.below b; replace o2 := o2.below b; replace o3 := o3.below b; replace B := B.trans (b.mono B.size); clear b
  have c_g2 := g2.cell; have f_g2 := g2.free; have a_g2 := fun o => (g2.alloc o).cell; have d_g2 := fun o o2 => ((g2.alloc o).alloc o2).cell; have e_g2 := fun o => (g2.alloc o).free
  have c_g3 := g3.cell; have f_g3 := g3.free; have a_g3 := fun o => (g3.alloc o).cell; have d_g3 := fun o o2 => ((g3.alloc o).alloc o2).cell; have e_g3 := fun o => (g3.alloc o).free
  go_wp2_with fail
  refine (H6.out _ _ o1.rd).mono ?_
  rintro e w' ⟨rfl, b⟩
  try clear c_g1 f_g1 a_g1 d_g1 e_g1
  replace g1 := g1.below b; have c_g1 := g1.cell; have f_g1 := g1.free; have a_g1 := fun o => (g1.alloc o).cell; have d_g1 := fun o o2 => ((g1.alloc o).alloc o2).cell; have e_g1 := fun o => (g1.alloc o).free; replace o1 := o1.below b; replace o2 := o2.below b; replace o3 := o3.below b; try clear c_g2 f_g2 a_g2 d_g2 e_g2
  replace g2 := g2.below b; have c_g2 := g2.cell; have f_g2 := g2.free; have a_g2 := fun o => (g2.alloc o).cell; have d_g2 := fun o o2 => ((g2.alloc o).alloc o2).cell; have e_g2 := fun o => (g2.alloc o).free; try clear c_g3 f_g3 a_g3 d_g3 e_g3
  replace g3 := g3.below b; have c_g3 := g3.cell; have f_g3 := g3.free; have a_g3 := fun o => (g3.alloc o).cell; have d_g3 := fun o o2 => ((g3.alloc o).alloc o2).cell; have e_g3 := fun o => (g3.alloc o).free; replace B := B.trans (b.mono B.size); clear b
  go_wp2_with fail
  refine calls_gen (fun Wv => Bx Wv (w'.heap.size) (39) (#[.int .i64 s1, .int .i64 s2]) ∧ Bx Wv (w'.heap.size + 1) (52) (#[.int .i64 s3, .int .u64 s4.toNat]) ∧ Below w'.heap.size w' Wv) ⟨(((Bx.at_ (by simp)).alloc _)), ((Bx.at_ (by simp))), (((Below.refl _ w').alloc (by simp <;> omega) _).alloc (by simp <;> omega) _)⟩ ?_
  rintro w' ⟨g4, g5, b⟩
  try clear c_g1 f_g1 a_g1 d_g1 e_g1
  replace g1 := g1.below b; have c_g1 := g1.cell; have f_g1 := g1.free; have a_g1 := fun o => (g1.alloc o).cell; have d_g1 := fun o o2 => ((g1.alloc o).alloc o2).cell; have e_g1 := fun o => (g1.alloc o).free; replace o1 := o1.below b; replace o2 := o2.below b; replace o3 := o3.below b; try clear c_g2 f_g2 a_g2 d_g2 e_g2
  replace g2 := g2.below b; have c_g2 := g2.cell; have f_g2 := g2.free; have a_g2 := fun o => (g2.alloc o).cell; have d_g2 := fun o o2 => ((g2.alloc o).alloc o2).cell; have e_g2 := fun o => (g2.alloc o).free; try clear c_g3 f_g3 a_g3 d_g3 e_g3
  replace g3 := g3.below b; have c_g3 := g3.cell; have f_g3 := g3.free; have a_g3 := fun o => (g3.alloc o).cell; have d_g3 := fun o o2 => ((g3.alloc o).alloc o2).cell; have e_g3 := fun o => (g3.alloc o).free; replace B := B.trans (b.mono B.size); clear b
  have c_g4 := g4.cell; have f_g4 := g4.free; have a_g4 := fun o => (g4.alloc o).cell; have d_g4 := fun o o2 => ((g4.alloc o).alloc o2).cell; have e_g4 := fun o => (g4.alloc o).free
  have c_g5 := g5.cell; have f_g5 := g5.free; have a_g5 := fun o => (g5.alloc o).cell; have d_g5 := fun o o2 => ((g5.alloc o).alloc o2).cell; have e_g5 := fun o => (g5.alloc o).free
  go_wp2_with fail
  refine (H7.out _ _ (H.out.below B)).mono ?_
  rintro e w' ⟨rfl, b⟩
  try clear c_g1 f_g1 a_g1 d_g1 e_g1
  replace g1 := g1.below b; have c_g1 := g1.cell; have f_g1 := g1.free; have a_g1 := fun o => (g1.alloc o).cell; have d_g1 := fun o o2 => ((g1.alloc o).alloc o2).cell; have e_g1 := fun o => (g1.alloc o).free; replace o1 := o1.below b; replace o2 := o2.below b; replace o3 := o3.below b; try clear c_g2 f_g2 a_g2 d_g2 e_g2
  replace g2 := g2.below b; have c_g2 := g2.cell; have f_g2 := g2.free; have a_g2 := fun o => (g2.alloc o).cell; have d_g2 := fun o o2 => ((g2.alloc o).alloc o2).cell; have e_g2 := fun o => (g2.alloc o).free; try clear c_g3 f_g3 a_g3 d_g3 e_g3
  replace g3 := g3.below b; have c_g3 := g3.cell; have f_g3 := g3.free; have a_g3 := fun o => (g3.alloc o).cell; have d_g3 := fun o o2 => ((g3.alloc o).alloc o2).cell; have e_g3 := fun o => (g3.alloc o).free; try clear c_g4 f_g4 a_g4 d_g4 e_g4
  replace g4 := g4.below b; have c_g4 := g4.cell; have f_g4 := g4.free; have a_g4 := fun o => (g4.alloc o).cell; have d_g4 := fun o o2 => ((g4.alloc o).alloc o2).cell; have e_g4 := fun o => (g4.alloc o).free; try clear c_g5 f_g5 a_g5 d_g5 e_g5
  replace g5 := g5.below b; have c_g5 := g5.cell; have f_g5 := g5.free; have a_g5 := fun o => (g5.alloc o).cell; have d_g5 := fun o o2 => ((g5.alloc o).alloc o2).cell; have e_g5 := fun o => (g5.alloc o).free; replace B := B.trans (b.mono B.size); clear b
  go_wp2_with fail
  refine calls_gen (fun Wv => Bx Wv (w'.heap.size) (52) (#[.int .i64 d1, .int .u64 d2.toNat]) ∧ Below w'.heap.size w' Wv) ⟨((Bx.at_ (by simp))), ((Below.refl _ w').alloc (by simp <;> omega) _)⟩ ?_
  rintro w' ⟨g6, b⟩
  try clear c_g1 f_g1 a_g1 d_g1 e_g1
  replace g1 := g1.below b; have c_g1 := g1.cell; have f_g1 := g1.free; have a_g1 := fun o => (g1.alloc o).cell; have d_g1 := fun o o2 => ((g1.alloc o).alloc o2).cell; have e_g1 := fun o => (g1.alloc o).free; replace o1 := o1.below b; replace o2 := o2.below b; replace o3 := o3.below b; try clear c_g2 f_g2 a_g2 d_g2 e_g2
  replace g2 := g2.below b; have c_g2 := g2.cell; have f_g2 := g2.free; have a_g2 := fun o => (g2.alloc o).cell; have d_g2 := fun o o2 => ((g2.alloc o).alloc o2).cell; have e_g2 := fun o => (g2.alloc o).free; try clear c_g3 f_g3 a_g3 d_g3 e_g3
  replace g3 := g3.below b; have c_g3 := g3.cell; have f_g3 := g3.free; have a_g3 := fun o => (g3.alloc o).cell; have d_g3 := fun o o2 => ((g3.alloc o).alloc o2).cell; have e_g3 := fun o => (g3.alloc o).free; try clear c_g4 f_g4 a_g4 d_g4 e_g4
  replace g4 := g4.below b; have c_g4 := g4.cell; have f_g4 := g4.free; have a_g4 := fun o => (g4.alloc o).cell; have d_g4 := fun o o2 => ((g4.alloc o).alloc o2).cell; have e_g4 := fun o => (g4.alloc o).free; try clear c_g5 f_g5 a_g5 d_g5 e_g5
  replace g5 := g5.below b; have c_g5 := g5.cell; have f_g5 := g5.free; have a_g5 := fun o => (g5.alloc o).cell; have d_g5 := fun o o2 => ((g5.alloc o).alloc o2).cell; have e_g5 := fun o => (g5.alloc o).free; replace B := B.trans (b.mono B.size); clear b
  have c_g6 := g6.cell; have f_g6 := g6.free; have a_g6 := fun o => (g6.alloc o).cell; have d_g6 := fun o o2 => ((g6.alloc o).alloc o2).cell; have e_g6 := fun o => (g6.alloc o).free
  go_wp2_with fail
  refine (H8.out _ _ o1.rd).mono ?_
  rintro e w' ⟨rfl, b⟩
  try clear c_g1 f_g1 a_g1 d_g1 e_g1
  replace g1 := g1.below b; have c_g1 := g1.cell; have f_g1 := g1.free; have a_g1 := fun o => (g1.alloc o).cell; have d_g1 := fun o o2 => ((g1.alloc o).alloc o2).cell; have e_g1 := fun o => (g1.alloc o).free; replace o1 := o1.below b; replace o2 := o2.below b; replace o3 := o3.below b; try clear c_g2 f_g2 a_g2 d_g2 e_g2
  replace g2 := g2.below b; have c_g2 := g2.cell; have f_g2 := g2.free; have a_g2 := fun o => (g2.alloc o).cell; have d_g2 := fun o o2 => ((g2.alloc o).alloc o2).cell; have e_g2 := fun o => (g2.alloc o).free; try clear c_g3 f_g3 a_g3 d_g3 e_g3
  replace g3 := g3.below b; have c_g3 := g3.cell; have f_g3 := g3.free; have a_g3 := fun o => (g3.alloc o).cell; have d_g3 := fun o o2 => ((g3.alloc o).alloc o2).cell; have e_g3 := fun o => (g3.alloc o).free; try clear c_g4 f_g4 a_g4 d_g4 e_g4
  replace g4 := g4.below b; have c_g4 := g4.cell; have f_g4 := g4.free; have a_g4 := fun o => (g4.alloc o).cell; have d_g4 := fun o o2 => ((g4.alloc o).alloc o2).cell; have e_g4 := fun o => (g4.alloc o).free; try clear c_g5 f_g5 a_g5 d_g5 e_g5
  replace g5 := g5.below b; have c_g5 := g5.cell; have f_g5 := g5.free; have a_g5 := fun o => (g5.alloc o).cell; have d_g5 := fun o o2 => ((g5.alloc o).alloc o2).cell; have e_g5 := fun o => (g5.alloc o).free; try clear c_g6 f_g6 a_g6 d_g6 e_g6
  replace g6 := g6.below b; have c_g6 := g6.cell; have f_g6 := g6.free; have a_g6 := fun o => (g6.alloc o).cell; have d_g6 := fun o o2 => ((g6.alloc o).alloc o2).cell; have e_g6 := fun o => (g6.alloc o).free; replace B := B.trans (b.mono B.size); clear b
  go_wp2_with fail
  refine calls_gen (fun Wv => Bx Wv (w'.heap.size) (52) (#[.int .i64 d1, .int .u64 d2.toNat]) ∧ Below w'.heap.size w' Wv) ⟨((Bx.at_ (by simp))), ((Below.refl _ w').alloc (by simp <;> omega) _)⟩ ?_
  rintro w' ⟨g7, b⟩
  try clear c_g1 f_g1 a_g1 d_g1 e_g1
  replace g1 := g1.below b; have c_g1 := g1.cell; have f_g1 := g1.free; have a_g1 := fun o => (g1.alloc o).cell; have d_g1 := fun o o2 => ((g1.alloc o).alloc o2).cell; have e_g1 := fun o => (g1.alloc o).free; replace o1 := o1.below b; replace o2 := o2.below b; replace o3 := o3.below b; try clear c_g2 f_g2 a_g2 d_g2 e_g2
  replace g2 := g2.below b; have c_g2 := g2.cell; have f_g2 := g2.free; have a_g2 := fun o => (g2.alloc o).cell; have d_g2 := fun o o2 => ((g2.alloc o).alloc o2).cell; have e_g2 := fun o => (g2.alloc o).free; try clear c_g3 f_g3 a_g3 d_g3 e_g3
  replace g3 := g3.below b; have c_g3 := g3.cell; have f_g3 := g3.free; have a_g3 := fun o => (g3.alloc o).cell; have d_g3 := fun o o2 => ((g3.alloc o).alloc o2).cell; have e_g3 := fun o => (g3.alloc o).free; try clear c_g4 f_g4 a_g4 d_g4 e_g4
  replace g4 := g4.below b; have c_g4 := g4.cell; have f_g4 := g4.free; have a_g4 := fun o => (g4.alloc o).cell; have d_g4 := fun o o2 => ((g4.alloc o).alloc o2).cell; have e_g4 := fun o => (g4.alloc o).free; try clear c_g5 f_g5 a_g5 d_g5 e_g5
  replace g5 := g5.below b; have c_g5 := g5.cell; have f_g5 := g5.free; have a_g5 := fun o => (g5.alloc o).cell; have d_g5 := fun o o2 => ((g5.alloc o).alloc o2).cell; have e_g5 := fun o => (g5.alloc o).free; try clear c_g6 f_g6 a_g6 d_g6 e_g6
  replace g6 := g6.below b; have c_g6 := g6.cell; have f_g6 := g6.free; have a_g6 := fun o => (g6.alloc o).cell; have d_g6 := fun o o2 => ((g6.alloc o).alloc o2).cell; have e_g6 := fun o => (g6.alloc o).free; replace B := B.trans (b.mono B.size); clear b
  have c_g7 := g7.cell; have f_g7 := g7.free; have a_g7 := fun o => (g7.alloc o).cell; have d_g7 := fun o o2 => ((g7.alloc o).alloc o2).cell; have e_g7 := fun o => (g7.alloc o).free
  go_wp2_with fail
  refine (SameS_any _ _ L L true (sameS_refl L).symm _ o2.rd o3.rd).mono ?_
  rintro e w' ⟨rfl, b⟩
  try clear c_g1 f_g1 a_g1 d_g1 e_g1
  replace g1 := g1.below b; have c_g1 := g1.cell; have f_g1 := g1.free; have a_g1 := fun o => (g1.alloc o).cell; have d_g1 := fun o o2 => ((g1.alloc o).alloc o2).cell; have e_g1 := fun o => (g1.alloc o).free; replace o1 := o1.below b; replace o2 := o2.below b; replace o3 := o3.below b; try clear c_g2 f_g2 a_g2 d_g2 e_g2
  replace g2 := g2.below b; have c_g2 := g2.cell; have f_g2 := g2.free; have a_g2 := fun o => (g2.alloc o).cell; have d_g2 := fun o o2 => ((g2.alloc o).alloc o2).cell; have e_g2 := fun o => (g2.alloc o).free; try clear c_g3 f_g3 a_g3 d_g3 e_g3
  replace g3 := g3.below b; have c_g3 := g3.cell; have f_g3 := g3.free; have a_g3 := fun o => (g3.alloc o).cell; have d_g3 := fun o o2 => ((g3.alloc o).alloc o2).cell; have e_g3 := fun o => (g3.alloc o).free; try clear c_g4 f_g4 a_g4 d_g4 e_g4
  replace g4 := g4.below b; have c_g4 := g4.cell; have f_g4 := g4.free; have a_g4 := fun o => (g4.alloc o).cell; have d_g4 := fun o o2 => ((g4.alloc o).alloc o2).cell; have e_g4 := fun o => (g4.alloc o).free; try clear c_g5 f_g5 a_g5 d_g5 e_g5
  replace g5 := g5.below b; have c_g5 := g5.cell; have f_g5 := g5.free; have a_g5 := fun o => (g5.alloc o).cell; have d_g5 := fun o o2 => ((g5.alloc o).alloc o2).cell; have e_g5 := fun o => (g5.alloc o).free; try clear c_g6 f_g6 a_g6 d_g6 e_g6
  replace g6 := g6.below b; have c_g6 := g6.cell; have f_g6 := g6.free; have a_g6 := fun o => (g6.alloc o).cell; have d_g6 := fun o o2 => ((g6.alloc o).alloc o2).cell; have e_g6 := fun o => (g6.alloc o).free; try clear c_g7 f_g7 a_g7 d_g7 e_g7
  replace g7 := g7.below b; have c_g7 := g7.cell; have f_g7 := g7.free; have a_g7 := fun o => (g7.alloc o).cell; have d_g7 := fun o o2 => ((g7.alloc o).alloc o2).cell; have e_g7 := fun o => (g7.alloc o).free; replace B := B.trans (b.mono B.size); clear b
  go_wp2_with fail
  refine (Same_r _ _ l l true (same_refl l).symm _ (H.out.below B) o1.rd).mono ?_
  rintro e w' ⟨rfl, b⟩
  try clear c_g1 f_g1 a_g1 d_g1 e_g1
  replace g1 := g1.below b; have c_g1 := g1.cell; have f_g1 := g1.free; have a_g1 := fun o => (g1.alloc o).cell; have d_g1 := fun o o2 => ((g1.alloc o).alloc o2).cell; have e_g1 := fun o => (g1.alloc o).free; replace o1 := o1.below b; replace o2 := o2.below b; replace o3 := o3.below b; try clear c_g2 f_g2 a_g2 d_g2 e_g2
  replace g2 := g2.below b; have c_g2 := g2.cell; have f_g2 := g2.free; have a_g2 := fun o => (g2.alloc o).cell; have d_g2 := fun o o2 => ((g2.alloc o).alloc o2).cell; have e_g2 := fun o => (g2.alloc o).free; try clear c_g3 f_g3 a_g3 d_g3 e_g3
  replace g3 := g3.below b; have c_g3 := g3.cell; have f_g3 := g3.free; have a_g3 := fun o => (g3.alloc o).cell; have d_g3 := fun o o2 => ((g3.alloc o).alloc o2).cell; have e_g3 := fun o => (g3.alloc o).free; try clear c_g4 f_g4 a_g4 d_g4 e_g4
  replace g4 := g4.below b; have c_g4 := g4.cell; have f_g4 := g4.free; have a_g4 := fun o => (g4.alloc o).cell; have d_g4 := fun o o2 => ((g4.alloc o).alloc o2).cell; have e_g4 := fun o => (g4.alloc o).free; try clear c_g5 f_g5 a_g5 d_g5 e_g5
  replace g5 := g5.below b; have c_g5 := g5.cell; have f_g5 := g5.free; have a_g5 := fun o => (g5.alloc o).cell; have d_g5 := fun o o2 => ((g5.alloc o).alloc o2).cell; have e_g5 := fun o => (g5.alloc o).free; try clear c_g6 f_g6 a_g6 d_g6 e_g6
  replace g6 := g6.below b; have c_g6 := g6.cell; have f_g6 := g6.free; have a_g6 := fun o => (g6.alloc o).cell; have d_g6 := fun o o2 => ((g6.alloc o).alloc o2).cell; have e_g6 := fun o => (g6.alloc o).free; try clear c_g7 f_g7 a_g7 d_g7 e_g7
  replace g7 := g7.below b; have c_g7 := g7.cell; have f_g7 := g7.free; have a_g7 := fun o => (g7.alloc o).cell; have d_g7 := fun o o2 => ((g7.alloc o).alloc o2).cell; have e_g7 := fun o => (g7.alloc o).free; replace B := B.trans (b.mono B.size); clear b
  go_wp2
  go_ret
  exact ⟨rfl, B⟩
end Go.Proofs.Yteiocllnhljpjaa
