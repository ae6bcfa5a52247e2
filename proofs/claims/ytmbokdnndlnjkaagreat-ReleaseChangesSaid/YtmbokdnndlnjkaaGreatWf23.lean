/- The walk of the law ReleaseChanges. -/
import Derived.Test.YtmbokdnndlnjkaaGreatMRx
set_option linter.unusedVariables false
set_option linter.unusedSimpArgs false
namespace Go.Proofs.YtmbokdnndlnjkaaGreat
open Go.RowKit L02 L05 L13 L19 L20

set_option maxRecDepth 100000 in
set_option maxHeartbeats 8000000 in
theorem ReleaseChanges_walk (v0 : Value) (l : List UInt64) (a0 b0 : Int) (w : World) (h0 : Words w v0 l) (_f1 : -9223372036854775808 ≤ a0 ∧ a0 ≤ 9223372036854775807) (_f2 : -9223372036854775808 ≤ b0 ∧ b0 ≤ 9223372036854775807) :
    Calls Tryz.prog 4 #[v0, .agg #[.int .i64 a0, .int .i64 b0]] w fun e w' => e = .returned (.bool true) ∧ Below w.heap.size w w' := by
  have B : Below w.heap.size w w := Below.refl _ _
  have H := Lib.hid h0; clear h0 _f1 _f2
  have G := Lib.hid (fun w h => Great_any v0 l w h)
  obtain ⟨gr, hgr⟩ : ∃ g, g = decide (2100 < l.length) := ⟨_, rfl⟩
  have HGR := Lib.hid hgr
  rw [← hgr] at G
  clear hgr
  cases gr
  case true =>
    go_enter Tryz.func4, Tryz.ntmps4
    go_upto_region 1 with (fail)
    refine wp_gen (fun Wv => Bx Wv (w.heap.size) (39) (#[.int .i64 a0, .int .i64 b0]) ∧ Below w.heap.size w Wv) ⟨((Bx.at_ (by simp))), ((Below.refl _ w).alloc (by simp <;> omega) _)⟩ ?_
    rintro wa1 ⟨g1, b⟩
    replace B := B.trans (b.mono B.size); clear b
    have c_g1 := g1.cell; have f_g1 := g1.free; have a_g1 := fun o => (g1.alloc o).cell; have d_g1 := fun o o2 => ((g1.alloc o).alloc o2).cell; have e_g1 := fun o => (g1.alloc o).free
    go_wp2_with fail
    refine (G.out _ (H.out.below B)).mono ?_
    rintro e w2 ⟨rfl, rfl⟩
    go_wp2
    go_ret
    exact ⟨rfl, B⟩
  case false =>
    have hl : l.length ≤ 1048576 := by have := HGR.out; simp at this; omega
    have HL := Lib.hid hl
    clear hl
    obtain ⟨E1, h1⟩ : ∃ v, v = diL l a0 b0 := ⟨_, rfl⟩
    obtain ⟨r1, h2⟩ : ∃ v, v = askI l a0 b0 := ⟨_, rfl⟩
    obtain ⟨E2, h3⟩ : ∃ v, v = fiL l a0 b0 := ⟨_, rfl⟩
    obtain ⟨r2, h4⟩ : ∃ v, v = fiE l a0 b0 := ⟨_, rfl⟩
    obtain ⟨bz, h5⟩ : ∃ v, v = biE l a0 b0 := ⟨_, rfl⟩
    have T1 := Lib.hid (fun v w h => Drop23_any v l a0 b0 E1 r1 h1 h2 w h)
    have T2 := Lib.hid (fun v w h => DropR23_any v l a0 b0 E1 r1 h1 h2 w h)
    have T3 := Lib.hid (fun v w h => Free23_any v l a0 b0 E2 r2 h3 h4 w h)
    have T4 := Lib.hid (fun v w h => FreeR23_any v l a0 b0 E2 r2 h3 h4 w h)
    have T5 := Lib.hid (fun v w h => Busy23_any v l a0 b0 bz r1 h5 h2 w h)
    have T6 := Lib.hid (fun v w h => BusyR23_any v l a0 b0 bz r1 h5 h2 w h)
    have S1 := Lib.hid (fun va vb w ha hb => Same22_any va vb E1 E1 true (by simp) w ha hb)
    have S2 := Lib.hid (fun va vb w ha hb => Same22_any va vb E2 E2 true (by simp) w ha hb)
    have e1 : (r1 == r1) = true := beq_self_eq_true r1
    have e2 : (r2 == r2) = true := beq_self_eq_true r2
    have e3 : (bz == bz) = true := beq_self_eq_true bz
    clear h1 h2 h3 h4 h5
    go_enter Tryz.func4, Tryz.ntmps4
    go_upto_region 1 with (fail)
    refine wp_gen (fun Wv => Bx Wv (w.heap.size) (39) (#[.int .i64 a0, .int .i64 b0]) ∧ Below w.heap.size w Wv) ⟨((Bx.at_ (by simp))), ((Below.refl _ w).alloc (by simp <;> omega) _)⟩ ?_
    rintro wa1 ⟨g1, b⟩
    replace B := B.trans (b.mono B.size); clear b
    have c_g1 := g1.cell; have f_g1 := g1.free; have a_g1 := fun o => (g1.alloc o).cell; have d_g1 := fun o o2 => ((g1.alloc o).alloc o2).cell; have e_g1 := fun o => (g1.alloc o).free
    go_wp2_with fail
    refine (G.out _ (H.out.below B)).mono ?_
    rintro e w2 ⟨rfl, rfl⟩
    go_wp2_with fail
    refine (Twin_any v0 l _ (H.out.below B) HL.out).mono ?_
    rintro e wa2 ⟨y, rfl, oy, b⟩
    try clear c_g1 f_g1 a_g1 d_g1 e_g1
    replace g1 := g1.below b; have c_g1 := g1.cell; have f_g1 := g1.free; have a_g1 := fun o => (g1.alloc o).cell; have d_g1 := fun o o2 => ((g1.alloc o).alloc o2).cell; have e_g1 := fun o => (g1.alloc o).free; replace B := B.trans (b.mono B.size); clear b
    have ry := oy.rd
    clear oy
    go_wp2_with fail
    refine (T1.out _ _ (H.out.below B)).mono ?_
    rintro e wa3 ⟨y1, rfl, o1, b⟩
    try clear c_g1 f_g1 a_g1 d_g1 e_g1
    replace g1 := g1.below b; have c_g1 := g1.cell; have f_g1 := g1.free; have a_g1 := fun o => (g1.alloc o).cell; have d_g1 := fun o o2 => ((g1.alloc o).alloc o2).cell; have e_g1 := fun o => (g1.alloc o).free; replace ry := ry.below b; replace B := B.trans (b.mono B.size); clear b
    have q1 := o1.rd
    clear o1
    go_wp2_with fail
    refine (T2.out _ _ ry).mono ?_
    rintro e wa4 ⟨y2, rfl, o2, b⟩
    try clear c_g1 f_g1 a_g1 d_g1 e_g1
    replace g1 := g1.below b; have c_g1 := g1.cell; have f_g1 := g1.free; have a_g1 := fun o => (g1.alloc o).cell; have d_g1 := fun o o2 => ((g1.alloc o).alloc o2).cell; have e_g1 := fun o => (g1.alloc o).free; replace ry := ry.below b; replace q1 := q1.below b; replace B := B.trans (b.mono B.size); clear b
    have q2 := o2.rd
    clear o2
    go_wp2_with fail
    refine (T3.out _ _ (H.out.below B)).mono ?_
    rintro e wa5 ⟨y3, rfl, o3, b⟩
    try clear c_g1 f_g1 a_g1 d_g1 e_g1
    replace g1 := g1.below b; have c_g1 := g1.cell; have f_g1 := g1.free; have a_g1 := fun o => (g1.alloc o).cell; have d_g1 := fun o o2 => ((g1.alloc o).alloc o2).cell; have e_g1 := fun o => (g1.alloc o).free; replace ry := ry.below b; replace q1 := q1.below b; replace q2 := q2.below b; replace B := B.trans (b.mono B.size); clear b
    have q3 := o3.rd
    clear o3
    go_wp2_with fail
    refine (T4.out _ _ ry).mono ?_
    rintro e wa6 ⟨y4, rfl, o4, b⟩
    try clear c_g1 f_g1 a_g1 d_g1 e_g1
    replace g1 := g1.below b; have c_g1 := g1.cell; have f_g1 := g1.free; have a_g1 := fun o => (g1.alloc o).cell; have d_g1 := fun o o2 => ((g1.alloc o).alloc o2).cell; have e_g1 := fun o => (g1.alloc o).free; replace ry := ry.below b; replace q1 := q1.below b; replace q2 := q2.below b; replace q3 := q3.below b; replace B := B.trans (b.mono B.size); clear b
    have q4 := o4.rd
    clear o4
    go_wp2_with fail
    refine (T5.out _ _ (H.out.below B)).mono ?_
    rintro e wa7 ⟨rfl, b⟩
    try clear c_g1 f_g1 a_g1 d_g1 e_g1
    replace g1 := g1.below b; have c_g1 := g1.cell; have f_g1 := g1.free; have a_g1 := fun o => (g1.alloc o).cell; have d_g1 := fun o o2 => ((g1.alloc o).alloc o2).cell; have e_g1 := fun o => (g1.alloc o).free; replace ry := ry.below b; replace q1 := q1.below b; replace q2 := q2.below b; replace q3 := q3.below b; replace q4 := q4.below b; replace B := B.trans (b.mono B.size); clear b
    go_wp2_with fail
    refine (T6.out _ _ ry).mono ?_
    rintro e wa8 ⟨rfl, b⟩
    try clear c_g1 f_g1 a_g1 d_g1 e_g1
    replace g1 := g1.below b; have c_g1 := g1.cell; have f_g1 := g1.free; have a_g1 := fun o => (g1.alloc o).cell; have d_g1 := fun o o2 => ((g1.alloc o).alloc o2).cell; have e_g1 := fun o => (g1.alloc o).free; replace ry := ry.below b; replace q1 := q1.below b; replace q2 := q2.below b; replace q3 := q3.below b; replace q4 := q4.below b; replace B := B.trans (b.mono B.size); clear b
    clear c_g1 f_g1 a_g1 d_g1 e_g1
    clear g1
    go_wp2_with fail
    refine (S1.out _ _ _ q1 q2).mono ?_
    rintro e wa9 ⟨rfl, b⟩
    replace ry := ry.below b; replace q1 := q1.below b; replace q2 := q2.below b; replace q3 := q3.below b; replace q4 := q4.below b; replace B := B.trans (b.mono B.size); clear b
    go_wp2_with fail
    refine (S2.out _ _ _ q3 q4).mono ?_
    rintro e wa10 ⟨rfl, b⟩
    replace ry := ry.below b; replace q1 := q1.below b; replace q2 := q2.below b; replace q3 := q3.below b; replace q4 := q4.below b; replace B := B.trans (b.mono B.size); clear b
    go_wp2_with fail
    refine (Same_r v0 y l l true (by simp [L02.same]) _ (H.out.below B) ry).mono ?_
    rintro e w77 ⟨rfl, b⟩
    replace B := B.trans (b.mono B.size)
    go_wp2
    go_ret
    exact ⟨rfl, B⟩
end Go.Proofs.YtmbokdnndlnjkaaGreat
