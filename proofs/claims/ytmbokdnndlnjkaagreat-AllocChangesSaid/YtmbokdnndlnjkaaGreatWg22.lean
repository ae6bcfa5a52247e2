/- The walk of the law AllocChanges. -/
import Derived.Test.YtmbokdnndlnjkaaGreatMRA
set_option linter.unusedVariables false
set_option linter.unusedSimpArgs false
namespace Go.Proofs.YtmbokdnndlnjkaaGreat
open Go.RowKit L02 L05 L13 L19 L20

set_option maxRecDepth 100000 in
set_option maxHeartbeats 8000000 in
theorem AllocChanges_walk (v0 : Value) (l : List UInt64) (n0 : Int) (w : World) (h0 : Words w v0 l) (_f1 : -9223372036854775808 ≤ n0 ∧ n0 ≤ 9223372036854775807) :
    Calls Tryz.prog 5 #[v0, .int .i64 n0] w fun e w' => e = .returned (.bool true) ∧ Below w.heap.size w w' := by
  have B : Below w.heap.size w w := Below.refl _ _
  have H := Lib.hid h0; clear h0 _f1
  have G := Lib.hid (fun w h => Great_any v0 l w h)
  obtain ⟨gr, hgr⟩ : ∃ g, g = decide (2100 < l.length) := ⟨_, rfl⟩
  have HGR := Lib.hid hgr
  rw [← hgr] at G
  clear hgr
  cases gr
  case true =>
    go_enter Tryz.func5, Tryz.ntmps5
    go_wp2_with fail
    refine (G.out _ (H.out.below B)).mono ?_
    rintro e w2 ⟨rfl, rfl⟩
    go_wp2
    go_ret
    exact ⟨rfl, B⟩
  case false =>
    have hl : l.length ≤ 1048576 := by have := HGR.out; simp at this; omega
    have HL := Lib.hid hl
    clear hl
    obtain ⟨E, h1⟩ : ∃ v, v = aiL l n0 := ⟨_, rfl⟩
    obtain ⟨s1, h2⟩ : ∃ v, v = aiS l n0 := ⟨_, rfl⟩
    obtain ⟨s2, h3⟩ : ∃ v, v = aiG l n0 := ⟨_, rfl⟩
    obtain ⟨r, h4⟩ : ∃ v, v = aiE l n0 := ⟨_, rfl⟩
    have T1 := Lib.hid (fun v w h => Change_any v l n0 E s1 s2 r h1 h2 h3 h4 w h)
    have T2 := Lib.hid (fun v w h => ChangeR22_any v l n0 E s1 s2 r h1 h2 h3 h4 w h)
    have S1 := Lib.hid (fun va vb w ha hb => Same22_any va vb E E true (by simp) w ha hb)
    have e1 : (r == r) = true := beq_self_eq_true r
    have e2 : (s1 == s1) = true := beq_self_eq_true s1
    have e3 : (s2 == s2) = true := beq_self_eq_true s2
    clear h1 h2 h3 h4
    go_enter Tryz.func5, Tryz.ntmps5
    go_wp2_with fail
    refine (G.out _ (H.out.below B)).mono ?_
    rintro e w2 ⟨rfl, rfl⟩
    go_wp2_with fail
    refine (Twin_any v0 l _ (H.out.below B) HL.out).mono ?_
    rintro e wa1 ⟨y, rfl, oy, b⟩
    replace B := B.trans (b.mono B.size); clear b
    have ry := oy.rd
    clear oy
    go_wp2_with fail
    refine (T1.out _ _ (H.out.below B)).mono ?_
    rintro e wa2 ⟨y1, rfl, o1, b⟩
    replace ry := ry.below b; replace B := B.trans (b.mono B.size); clear b
    have q1 := o1.rd
    clear o1
    go_upto_region 5 with (fail)
    refine wp_gen (fun Wv => Bx Wv (wa2.heap.size) (39) (#[.int .i64 s1, .int .i64 s2]) ∧ Below wa2.heap.size wa2 Wv) ⟨((Bx.at_ (by simp))), ((Below.refl _ wa2).alloc (by simp <;> omega) _)⟩ ?_
    rintro wa3 ⟨g1, b⟩
    replace ry := ry.below b; replace q1 := q1.below b; replace B := B.trans (b.mono B.size); clear b
    have c_g1 := g1.cell; have f_g1 := g1.free; have a_g1 := fun o => (g1.alloc o).cell; have d_g1 := fun o o2 => ((g1.alloc o).alloc o2).cell; have e_g1 := fun o => (g1.alloc o).free
    go_wp2_with fail
    refine (T2.out _ _ ry).mono ?_
    rintro e wa4 ⟨y2, rfl, o2, b⟩
    replace ry := ry.below b; replace q1 := q1.below b; try clear c_g1 f_g1 a_g1 d_g1 e_g1
    replace g1 := g1.below b; have c_g1 := g1.cell; have f_g1 := g1.free; have a_g1 := fun o => (g1.alloc o).cell; have d_g1 := fun o o2 => ((g1.alloc o).alloc o2).cell; have e_g1 := fun o => (g1.alloc o).free; replace B := B.trans (b.mono B.size); clear b
    have q2 := o2.rd
    clear o2
    go_upto_region 6 with (fail)
    refine wp_gen (fun Wv => Bx Wv (wa4.heap.size) (39) (#[.int .i64 s1, .int .i64 s2]) ∧ Below wa4.heap.size wa4 Wv) ⟨((Bx.at_ (by simp))), ((Below.refl _ wa4).alloc (by simp <;> omega) _)⟩ ?_
    rintro wa5 ⟨g2, b⟩
    try clear c_g1 f_g1 a_g1 d_g1 e_g1
    replace g1 := g1.below b; have c_g1 := g1.cell; have f_g1 := g1.free; have a_g1 := fun o => (g1.alloc o).cell; have d_g1 := fun o o2 => ((g1.alloc o).alloc o2).cell; have e_g1 := fun o => (g1.alloc o).free; replace ry := ry.below b; replace q1 := q1.below b; replace q2 := q2.below b; replace B := B.trans (b.mono B.size); clear b
    have c_g2 := g2.cell; have f_g2 := g2.free; have a_g2 := fun o => (g2.alloc o).cell; have d_g2 := fun o o2 => ((g2.alloc o).alloc o2).cell; have e_g2 := fun o => (g2.alloc o).free
    go_wp2_with fail
    refine (S1.out _ _ _ q1 q2).mono ?_
    rintro e wa6 ⟨rfl, b⟩
    try clear c_g1 f_g1 a_g1 d_g1 e_g1
    replace g1 := g1.below b; have c_g1 := g1.cell; have f_g1 := g1.free; have a_g1 := fun o => (g1.alloc o).cell; have d_g1 := fun o o2 => ((g1.alloc o).alloc o2).cell; have e_g1 := fun o => (g1.alloc o).free; replace ry := ry.below b; replace q1 := q1.below b; replace q2 := q2.below b; try clear c_g2 f_g2 a_g2 d_g2 e_g2
    replace g2 := g2.below b; have c_g2 := g2.cell; have f_g2 := g2.free; have a_g2 := fun o => (g2.alloc o).cell; have d_g2 := fun o o2 => ((g2.alloc o).alloc o2).cell; have e_g2 := fun o => (g2.alloc o).free; replace B := B.trans (b.mono B.size); clear b
    go_wp2_with fail
    refine (Same_r v0 y l l true (by simp [L02.same]) _ (H.out.below B) ry).mono ?_
    rintro e w77 ⟨rfl, b⟩
    replace B := B.trans (b.mono B.size)
    go_wp2
    go_ret
    exact ⟨rfl, B⟩
end Go.Proofs.YtmbokdnndlnjkaaGreat
