/- The walk of the law FormatRight: a new image is right and empty, with the given types, no objects and slots that were never used, and the new device has it. -/
import Derived.Test.YtodbbacmdjcheaaMRm
set_option linter.unusedVariables false
set_option linter.unusedSimpArgs false
namespace Go.Proofs.Ytodbbacmdjcheaa
open Go.RowKit L02 L05 L06 L07 L13 L14 L15 L16 L18 L19 L20 L73 L74 L75

theorem nw_chk {n : Nat} {T : List (List UInt8)} (h : Nw n T) : chk19 (imageP n T) = 0 := h.rt.chk
theorem nw_emp {n : Nat} {T : List (List UInt8)} (h : Nw n T) : emp (imageP n T) = true := by
  rw [emp, if_pos (nw_chk h), h.allL, h.slots]; rfl
theorem nw_of {n : Nat} {T : List (List UInt8)} (h : Nw n T) : ofM (imageP n T) = ⟨T, [], List.replicate 16 .none⟩ := by
  rw [ofM, if_pos (nw_chk h), h.seen]

theorem forms36 {w : World} {B E : Nat} {tv ov sv : Value} {m : Mo} (h : OwnM w B E tv ov sv m) : (∃ A n c, tv = .slice A n c) ∧ (∃ A n c, ov = .slice A n c) ∧ ∃ A n c, sv = .slice A n c := by
  obtain ⟨⟨_, _, z2, _⟩, ⟨_, _, y2, _⟩, s⟩ := h
  obtain ⟨A, c, e, _⟩ := Rd.of_own z2; obtain ⟨A', c', e', _⟩ := Rd.of_own y2; obtain ⟨A'', c'', e'', _⟩ := Rd.of_own s
  exact ⟨⟨A, _, c, e⟩, ⟨A', _, c', e'⟩, ⟨A'', _, c'', e''⟩⟩

set_option maxRecDepth 100000 in
set_option maxHeartbeats 8000000 in
theorem FormatRight_walk (n : Int) (v1 : Value) (T : List (List UInt8)) (w : World) (f0 : -9223372036854775808 ≤ n ∧ n ≤ 9223372036854775807) (h1 : Typs w v1 T) :
    Calls Try.prog 5 #[.int .i64 n, v1] w fun e w' => e = .returned (.bool true) ∧ Below w.heap.size w w' := by
  clear f0
  have B : Below w.heap.size w w := Below.refl _ _
  have AL := Lib.hid alive36_any
  obtain ⟨r, hr⟩ : ∃ r, r = imgErr n T := ⟨_, rfl⟩
  have A1 := Lib.hid (fun w h => Asked_any n v1 T r hr w h)
  have HR := Lib.hid hr
  have H := Lib.hid h1
  clear hr h1
  go_enter Try.func5, Try.ntmps5
  go_wp2_with fail
  refine (AL.out _).mono ?_
  rintro e wa1 ⟨rfl, b⟩
  replace B := B.trans (b.mono B.size); clear b
  go_wp2_with fail
  refine (A1.out _ (H.out.below B)).mono ?_
  rintro e w2 ⟨rfl, rfl⟩
  by_cases h0 : r = 0
  rotate_left
  · go_wp2
    go_ret
    exact ⟨rfl, B⟩
  subst h0
  obtain ⟨N, rfl, sN, t8, gT, iN⟩ := imgErr_ok HR.out.symm
  have nw : Nw N T := ⟨sN, t8, gT⟩
  obtain ⟨l, hl⟩ : ∃ l, l = imageP N T := ⟨_, rfl⟩
  have c0 := nw_chk nw; have c1 := nw_emp nw; have c2 := nw_of nw
  rw [← hl] at c0 c1 c2
  have hs : SizeOk l.length := by rw [hl]; exact nw.sizeOk
  have I1 := Lib.hid (fun w h => (show Calls Try.prog 10 #[.int .i64 N, v1] w (RetWE w l 0) from by
    have := Image_any N v1 T w h; rw [← HR.out, iN, ← hl] at this; exact this))
  have I2 := Lib.hid (fun w h => Device_ok N v1 T l HR.out.symm (by rw [hl, iN]) hs w h)
  have I3 := Lib.hid (fun v w h => Empty36_any v l true 0 c1.symm c0.symm w h)
  have I4 := Lib.hid (fun v w h => OfM_any v l ⟨T, [], List.replicate 16 .none⟩ 0 c2.symm c0.symm w h)
  have I5 := Lib.hid (fun v w h => ViewC_any v l hs w h)
  have I6 := Lib.hid (fun v w h => Check19_any v l 0 c0.symm w h)
  have ST := Lib.hid (fun va vb w h1 h2 => Same_r va vb l l true (by rw [L02.same]; simp) w h1 h2)
  have TT := Lib.hid (fun va vb w h1 h2 => SameT_any va vb T T true (by simp) w h1 h2)
  clear hl nw c0 c1 c2 hs sN t8 gT iN A1 HR
  go_wp2_with fail
  refine (I1.out _ (H.out.below B)).mono ?_
  rintro e w2 ⟨x, rfl, o, b⟩
  have p1 := o.rd
  replace B := B.trans (b.mono B.size); clear b o
  go_wp2_with fail
  refine (I2.out _ (H.out.below B)).mono ?_
  rintro e w3 ⟨y, rfl, o, b⟩
  obtain ⟨A0, n0, c0, rfl⟩ := own_one94 o
  have p2 := o.rd
  replace p1 := p1.below b
  replace B := B.trans (b.mono B.size); clear b o
  go_upto_region 6 with (fail)
  refine wp_gen (fun Wv => Bx Wv (w3.heap.size) (33) (#[.slice A0 n0 c0, .slice none 0 0, .int .i64 (-1), .bool false]) ∧ Below w3.heap.size w3 Wv) ⟨((Bx.at_ (by simp))), ((Below.refl _ w3).alloc (by simp <;> omega) _)⟩ ?_
  rintro wa2 ⟨g1, b⟩
  replace p1 := p1.below b; replace p2 := p2.below b; replace B := B.trans (b.mono B.size); clear b
  have c_g1 := g1.cell; have f_g1 := g1.free; have a_g1 := fun o => (g1.alloc o).cell; have d_g1 := fun o o2 => ((g1.alloc o).alloc o2).cell; have e_g1 := fun o => (g1.alloc o).free
  go_wp2_with fail
  refine (I3.out _ _ p1).mono ?_
  rintro e wa3 ⟨rfl, b⟩
  replace p1 := p1.below b; replace p2 := p2.below b; try clear c_g1 f_g1 a_g1 d_g1 e_g1
  replace g1 := g1.below b; have c_g1 := g1.cell; have f_g1 := g1.free; have a_g1 := fun o => (g1.alloc o).cell; have d_g1 := fun o o2 => ((g1.alloc o).alloc o2).cell; have e_g1 := fun o => (g1.alloc o).free; replace B := B.trans (b.mono B.size); clear b
  go_wp2_with fail
  refine (I4.out _ _ p1).mono ?_
  rintro e wa4 ⟨ta, oa, sa, rfl, o1, b⟩
  replace p1 := p1.below b; replace p2 := p2.below b; try clear c_g1 f_g1 a_g1 d_g1 e_g1
  replace g1 := g1.below b; have c_g1 := g1.cell; have f_g1 := g1.free; have a_g1 := fun o => (g1.alloc o).cell; have d_g1 := fun o o2 => ((g1.alloc o).alloc o2).cell; have e_g1 := fun o => (g1.alloc o).free; replace B := B.trans (b.mono B.size); clear b
  have M1 := o1.rd
  obtain ⟨⟨tA, tn, tc, rfl⟩, ⟨oA, on, oc, rfl⟩, ⟨sA, sn, sc, rfl⟩⟩ := forms36 o1
  clear o1
  go_upto_region 8 with (fail)
  refine wp_gen (fun Wv => Bx Wv (wa4.heap.size) (50) (#[.slice tA tn tc, .slice oA on oc, .slice sA sn sc]) ∧ Below wa4.heap.size wa4 Wv) ⟨((Bx.at_ (by simp))), ((Below.refl _ wa4).alloc (by simp <;> omega) _)⟩ ?_
  rintro wa5 ⟨g2, b⟩
  replace p1 := p1.below b; replace p2 := p2.below b; try clear c_g1 f_g1 a_g1 d_g1 e_g1
  replace g1 := g1.below b; have c_g1 := g1.cell; have f_g1 := g1.free; have a_g1 := fun o => (g1.alloc o).cell; have d_g1 := fun o o2 => ((g1.alloc o).alloc o2).cell; have e_g1 := fun o => (g1.alloc o).free; replace M1 := M1.below b; replace B := B.trans (b.mono B.size); clear b
  have c_g2 := g2.cell; have f_g2 := g2.free; have a_g2 := fun o => (g2.alloc o).cell; have d_g2 := fun o o2 => ((g2.alloc o).alloc o2).cell; have e_g2 := fun o => (g2.alloc o).free
  go_wp2_with fail
  refine (I5.out _ _ p2).mono ?_
  rintro e wa6 ⟨z, rfl, o, b⟩
  replace p1 := p1.below b; replace p2 := p2.below b; try clear c_g1 f_g1 a_g1 d_g1 e_g1
  replace g1 := g1.below b; have c_g1 := g1.cell; have f_g1 := g1.free; have a_g1 := fun o => (g1.alloc o).cell; have d_g1 := fun o o2 => ((g1.alloc o).alloc o2).cell; have e_g1 := fun o => (g1.alloc o).free; replace M1 := M1.below b; try clear c_g2 f_g2 a_g2 d_g2 e_g2
  replace g2 := g2.below b; have c_g2 := g2.cell; have f_g2 := g2.free; have a_g2 := fun o => (g2.alloc o).cell; have d_g2 := fun o o2 => ((g2.alloc o).alloc o2).cell; have e_g2 := fun o => (g2.alloc o).free; replace B := B.trans (b.mono B.size); clear b
  have p3 := o.rd
  clear o
  have lo := M1.o.len; have ls := M1.s.len
  have lo' : ∀ ty W, (Builtin.len_ #[47] ty #[.slice oA on oc]).run Try.prog W = .ok (.int .i64 0) W := lo
  have ls' : ∀ ty W, (Builtin.len_ #[48] ty #[.slice sA sn sc]).run Try.prog W = .ok (.int .i64 16) W := ls
  clear lo ls
  go_wp2_with fail
  refine (I6.out _ _ p1).mono ?_
  rintro e wa7 ⟨rfl, b⟩
  replace p1 := p1.below b; replace p3 := p3.below b; try clear c_g1 f_g1 a_g1 d_g1 e_g1
  replace g1 := g1.below b; have c_g1 := g1.cell; have f_g1 := g1.free; have a_g1 := fun o => (g1.alloc o).cell; have d_g1 := fun o o2 => ((g1.alloc o).alloc o2).cell; have e_g1 := fun o => (g1.alloc o).free; try clear c_g2 f_g2 a_g2 d_g2 e_g2
  replace g2 := g2.below b; have c_g2 := g2.cell; have f_g2 := g2.free; have a_g2 := fun o => (g2.alloc o).cell; have d_g2 := fun o o2 => ((g2.alloc o).alloc o2).cell; have e_g2 := fun o => (g2.alloc o).free; replace M1 := M1.below b; replace B := B.trans (b.mono B.size); clear b
  go_wp2_with fail
  refine (ST.out _ _ _ p3 p1).mono ?_
  rintro e wa8 ⟨rfl, b⟩
  replace p1 := p1.below b; replace p3 := p3.below b; try clear c_g1 f_g1 a_g1 d_g1 e_g1
  replace g1 := g1.below b; have c_g1 := g1.cell; have f_g1 := g1.free; have a_g1 := fun o => (g1.alloc o).cell; have d_g1 := fun o o2 => ((g1.alloc o).alloc o2).cell; have e_g1 := fun o => (g1.alloc o).free; try clear c_g2 f_g2 a_g2 d_g2 e_g2
  replace g2 := g2.below b; have c_g2 := g2.cell; have f_g2 := g2.free; have a_g2 := fun o => (g2.alloc o).cell; have d_g2 := fun o o2 => ((g2.alloc o).alloc o2).cell; have e_g2 := fun o => (g2.alloc o).free; replace M1 := M1.below b; replace B := B.trans (b.mono B.size); clear b
  go_wp2_with fail
  refine (TT.out _ _ _ M1.t (H.out.below B)).mono ?_
  rintro e wa9 ⟨rfl, b⟩
  try clear c_g1 f_g1 a_g1 d_g1 e_g1
  replace g1 := g1.below b; have c_g1 := g1.cell; have f_g1 := g1.free; have a_g1 := fun o => (g1.alloc o).cell; have d_g1 := fun o o2 => ((g1.alloc o).alloc o2).cell; have e_g1 := fun o => (g1.alloc o).free; try clear c_g2 f_g2 a_g2 d_g2 e_g2
  replace g2 := g2.below b; have c_g2 := g2.cell; have f_g2 := g2.free; have a_g2 := fun o => (g2.alloc o).cell; have d_g2 := fun o o2 => ((g2.alloc o).alloc o2).cell; have e_g2 := fun o => (g2.alloc o).free; replace M1 := M1.below b; replace B := B.trans (b.mono B.size); clear b
  have HM := Lib.hid M1.s; clear M1
  have q := fun W => slot_neq .none .none false rfl W
  have q' : ∀ W, (binOp .neq 56 (.agg #[.int .i64 0, .bool false, .int .i64 0]) (.agg #[.int .i64 0, .bool false, .int .i64 0])).run Try.prog W = .ok (.bool false) W := q
  clear q
  go_wp2
  go_loop [16] (fun i => ∃ k : Nat, k ≤ 16 ∧ i = .int .i64 k) (fun i => 16 - (intOf i).toNat)
  case atStart => exact ⟨0, by omega, rfl⟩
  case round =>
    obtain ⟨k, hk, rfl⟩ := hrel
    by_cases hlt : k < 16
    · obtain ⟨b, o, s, ia, m0, m1, m2, hs⟩ := HM.out.at_ (P := Try.prog) Try.underlying48 size_slot (k := k) (by simpa using hlt)
      obtain rfl : s = .none := by
        have := List.mem_of_getElem? hs.out
        exact List.eq_of_mem_replicate this
      have m0' : wa9.cell? ⟨b, o, none⟩ = some (.int .i64 0) := m0
      have m1' : wa9.cell? ⟨b, o + 1, none⟩ = some (.bool false) := m1
      have m2' : wa9.cell? ⟨b, o + 2, none⟩ = some (.int .i64 0) := m2
      clear m0 m1 m2 hs
      go_wp2
      go_round
      case rel => exact ⟨k + 1, by omega, by go_num⟩
      case measure => simp [intOf]; omega
    · obtain rfl : k = 16 := by omega
      go_wp2
      go_ret
      exact ⟨rfl, B⟩
end Go.Proofs.Ytodbbacmdjcheaa
