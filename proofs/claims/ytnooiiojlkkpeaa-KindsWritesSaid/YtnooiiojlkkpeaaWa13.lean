/- The walks of the laws KindsWrites, KindsSize. -/
import Derived.Test.YtnooiiojlkkpeaaC13e
set_option linter.unusedVariables false
set_option linter.unusedSimpArgs false
namespace Go.Proofs.Ytnooiiojlkkpeaa
open Go.RowKit L02 L05 L13

set_option maxRecDepth 100000 in
set_option maxHeartbeats 4000000 in
theorem KindsWrites_walk (v0 : Value) (l : List UInt8) (a b : UInt64) (w : World) (h0 : Byts w v0 l) :
    Calls Try.prog 3 #[v0, .int .u64 a.toNat, .int .u64 b.toNat] w fun e w' => e = .returned (.bool true) ∧ Below w.heap.size w w' := by
  have B : Below w.heap.size w w := Below.refl _ _
  have l1 := Rd.len h0 Try.underlying22
  have H := Lib.hid h0; clear h0
  by_cases hbig : 100 < l.length
  · skip
    go_enter Try.func3, Try.ntmps3
    go_wp2
    go_ret
    exact ⟨rfl, B⟩
  obtain ⟨n, hn⟩ : ∃ n, n = kSize l := ⟨_, rfl⟩
  obtain ⟨e, he⟩ : ∃ e, e = kErr l := ⟨_, rfl⟩
  obtain ⟨c, hc⟩ : ∃ c, c = w0 l := ⟨_, rfl⟩
  obtain ⟨d, hd⟩ : ∃ d, d = w1 l := ⟨_, rfl⟩
  obtain ⟨L, hL⟩ : ∃ L, L = rdL a b := ⟨_, rfl⟩
  obtain ⟨r, hr⟩ : ∃ r, r = rdE a b := ⟨_, rfl⟩
  have A1 := fun w h => KSize_any v0 l n e hn he w h
  have A2 := fun w h => KSizeR_any v0 l n e hn he w h
  have A3 := fun w h => KWrite_any v0 l c d e hc hd he w h
  have A4 := fun w h => KWriteR_any v0 l c d e hc hd he w h
  have A5 := fun w => KRead_any a b L r hL hr w
  have A6 := fun w => KReadR_any a b L r hL hr w
  have A7 := fun w h => KCheck_any v0 l e he w h
  have A8 := fun w h => KCheckR_any v0 l e he w h
  have H1 := Lib.hid A1; have H2 := Lib.hid A2; have H3 := Lib.hid A3; have H4 := Lib.hid A4; have H5 := Lib.hid A5; have H6 := Lib.hid A6; have H7 := Lib.hid A7; have H8 := Lib.hid A8
  clear A1 A2 A3 A4 A5 A6 A7 A8 hn he hc hd hL hr
  have q1 := fun W => pair_eql c d c d true (by simp) W
  go_enter Try.func3, Try.ntmps3
  go_wp2_with fail
  refine (H1.out _ (H.out.below B)).mono ?_
  rintro e w2 ⟨rfl, rfl⟩
  go_wp2_with fail
  refine (H2.out _ (H.out.below B)).mono ?_
  rintro e w2 ⟨rfl, rfl⟩
  go_wp2_with fail
  refine (H3.out _ (H.out.below B)).mono ?_
  rintro e w' ⟨rfl, b⟩
  replace B := B.trans (b.mono B.size); clear b
  go_wp2_with fail
  refine calls_gen (fun Wv => Bx Wv (w'.heap.size) (29) (#[.int .u64 c.toNat, .int .u64 d.toNat]) ∧ Below w'.heap.size w' Wv) ⟨((Bx.at_ (by simp))), ((Below.refl _ w').alloc (by simp <;> omega) _)⟩ ?_
  rintro w' ⟨g1, b⟩
  replace B := B.trans (b.mono B.size); clear b
  have c_g1 := g1.cell; have f_g1 := g1.free; have a_g1 := fun o => (g1.alloc o).cell; have d_g1 := fun o o2 => ((g1.alloc o).alloc o2).cell; have e_g1 := fun o => (g1.alloc o).free
  go_wp2_with fail
  refine (H4.out _ (H.out.below B)).mono ?_
  rintro e w' ⟨rfl, b⟩
  try clear c_g1 f_g1 a_g1 d_g1 e_g1
  replace g1 := g1.below b; have c_g1 := g1.cell; have f_g1 := g1.free; have a_g1 := fun o => (g1.alloc o).cell; have d_g1 := fun o o2 => ((g1.alloc o).alloc o2).cell; have e_g1 := fun o => (g1.alloc o).free; replace B := B.trans (b.mono B.size); clear b
  go_wp2_with fail
  refine calls_gen (fun Wv => Bx Wv (w'.heap.size) (29) (#[.int .u64 c.toNat, .int .u64 d.toNat]) ∧ Below w'.heap.size w' Wv) ⟨((Bx.at_ (by simp))), ((Below.refl _ w').alloc (by simp <;> omega) _)⟩ ?_
  rintro w' ⟨g2, b⟩
  try clear c_g1 f_g1 a_g1 d_g1 e_g1
  replace g1 := g1.below b; have c_g1 := g1.cell; have f_g1 := g1.free; have a_g1 := fun o => (g1.alloc o).cell; have d_g1 := fun o o2 => ((g1.alloc o).alloc o2).cell; have e_g1 := fun o => (g1.alloc o).free; replace B := B.trans (b.mono B.size); clear b
  have c_g2 := g2.cell; have f_g2 := g2.free; have a_g2 := fun o => (g2.alloc o).cell; have d_g2 := fun o o2 => ((g2.alloc o).alloc o2).cell; have e_g2 := fun o => (g2.alloc o).free
  go_wp2_with fail
  refine (H5.out _).mono ?_
  rintro e w' ⟨x1, rfl, o1, b⟩
  try clear c_g1 f_g1 a_g1 d_g1 e_g1
  replace g1 := g1.below b; have c_g1 := g1.cell; have f_g1 := g1.free; have a_g1 := fun o => (g1.alloc o).cell; have d_g1 := fun o o2 => ((g1.alloc o).alloc o2).cell; have e_g1 := fun o => (g1.alloc o).free; try clear c_g2 f_g2 a_g2 d_g2 e_g2
  replace g2 := g2.below b; have c_g2 := g2.cell; have f_g2 := g2.free; have a_g2 := fun o => (g2.alloc o).cell; have d_g2 := fun o o2 => ((g2.alloc o).alloc o2).cell; have e_g2 := fun o => (g2.alloc o).free; replace B := B.trans (b.mono B.size); clear b
  go_wp2_with fail
  refine (H6.out _).mono ?_
  rintro e w' ⟨x2, rfl, o2, b⟩
  try clear c_g1 f_g1 a_g1 d_g1 e_g1
  replace g1 := g1.below b; have c_g1 := g1.cell; have f_g1 := g1.free; have a_g1 := fun o => (g1.alloc o).cell; have d_g1 := fun o o2 => ((g1.alloc o).alloc o2).cell; have e_g1 := fun o => (g1.alloc o).free; try clear c_g2 f_g2 a_g2 d_g2 e_g2
  replace g2 := g2.below b; have c_g2 := g2.cell; have f_g2 := g2.free; have a_g2 := fun o => (g2.alloc o).cell; have d_g2 := fun o o2 => ((g2.alloc o).alloc o2).cell; have e_g2 := fun o => (g2.alloc o).free; replace o1 := o1.below b; replace B := B.trans (b.mono B.size); clear b
  have s1 := o1.rd.str (P := Try.prog) (dst := 9) Try.underlying22 Try.underlying5 Try.underlying9
  have s2 := o2.rd.str (P := Try.prog) (dst := 9) Try.underlying22 Try.underlying5 Try.underlying9
  go_wp2_with fail
  refine (H7.out _ (H.out.below B)).mono ?_
  rintro e w2 ⟨rfl, rfl⟩
  go_wp2_with fail
  refine (H8.out _ (H.out.below B)).mono ?_
  rintro e w2 ⟨rfl, rfl⟩
  go_wp2
  go_ret
  exact ⟨rfl, B⟩
end Go.Proofs.Ytnooiiojlkkpeaa
