/- The walk of the law FormatMakes: Image and Device return what the reference returns, and do not modify the types. -/
import Derived.Test.YtodbbacmdjcheaaMKg
set_option linter.unusedVariables false
set_option linter.unusedSimpArgs false
namespace Go.Proofs.Ytodbbacmdjcheaa
open Go.RowKit L02 L05 L06 L07 L13 L14 L15 L16 L18 L19 L73 L74 L75

set_option maxRecDepth 100000 in
set_option maxHeartbeats 8000000 in
theorem FormatMakes_walk (n : Int) (v1 : Value) (T : List (List UInt8)) (w : World) (f0 : -9223372036854775808 ≤ n ∧ n ≤ 9223372036854775807) (h1 : Typs w v1 T) :
    Calls Try.prog 3 #[.int .i64 n, v1] w fun e w' => e = .returned (.bool true) ∧ Below w.heap.size w w' := by
  clear f0
  have B : Below w.heap.size w w := Below.refl _ _
  by_cases hn : 2100 < n
  · skip
    go_enter Try.func3, Try.ntmps3
    go_wp2
    go_ret
    exact ⟨rfl, B⟩
  obtain ⟨g, hg⟩ : ∃ g, g = great36 T := ⟨_, rfl⟩
  have GT := Lib.hid (fun w h => Great36_any v1 T g hg w h)
  have H := Lib.hid h1
  clear h1
  cases g
  case true =>
    clear hg
    go_enter Try.func3, Try.ntmps3
    go_wp2_with fail
    refine (GT.out _ H.out).mono ?_
    rintro e w2 ⟨rfl, rfl⟩
    go_wp2
    go_ret
    exact ⟨rfl, B⟩
  case false =>
  obtain ⟨t10, t20⟩ := great36_no hg.symm
  obtain ⟨r, hr⟩ : ∃ r, r = imgErr n T := ⟨_, rfl⟩
  obtain ⟨l, hl⟩ : ∃ l, l = imgP n T := ⟨_, rfl⟩
  have TT := Lib.hid (fun w h => Twin36_any v1 T t10 t20 w h)
  have I1 := Lib.hid (fun v w h => (show Calls Try.prog 10 #[.int .i64 n, v] w (RetWE w l r) from by rw [hl, hr]; exact Image_any n v T w h))
  have I2 := Lib.hid (fun w h => ImageR36_any n v1 T l r hl hr w h)
  have ST := Lib.hid (fun va vb w h1 h2 => Same_r va vb l l true (by rw [L02.same]; simp) w h1 h2)
  have S3 := Lib.hid (fun va vb w h1 h2 => SameT_any va vb T T true (by simp) w h1 h2)
  clear hg t10 t20
  by_cases h0 : r = 0
  case pos =>
    subst h0
    have hs : SizeOk l.length := by rw [hl]; exact imgP_size hr.symm
    have D1 := Lib.hid (fun v w h => Device_ok n v T l hr.symm hl hs w h)
    have D2 := Lib.hid (fun w h => DeviceR36_ok n v1 T l hr.symm hl hs w h)
    have DS := Lib.hid (fun va vb w ha hb => Same03_eq va vb l (-1) w ha hb)
    clear hr hl hs
    go_enter Try.func3, Try.ntmps3
    go_wp2_with fail
    refine (GT.out _ H.out).mono ?_
    rintro e w2 ⟨rfl, rfl⟩
    go_wp2_with fail
    refine (TT.out _ H.out).mono ?_
    rintro e wa1 ⟨y, rfl, o, b⟩
    replace B := B.trans (b.mono B.size); clear b
    have p0 := o.rd
    have one : y.oneCell' = true := by obtain ⟨_, _, ⟨A, c, rfl, _⟩, _⟩ := id p0; rfl
    clear o
    go_wp2_with fail
    refine (I1.out _ _ p0).mono ?_
    rintro e wa2 ⟨x1, rfl, o, b⟩
    replace p0 := p0.below b; replace B := B.trans (b.mono B.size); clear b
    have p1 := o.rd
    clear o
    go_wp2_with fail
    refine (I2.out _ (H.out.below B)).mono ?_
    rintro e wa3 ⟨x2, rfl, o, b⟩
    replace p0 := p0.below b; replace p1 := p1.below b; replace B := B.trans (b.mono B.size); clear b
    have p2 := o.rd
    clear o
    go_wp2_with fail
    refine (D1.out _ _ p0).mono ?_
    rintro e wa4 ⟨x3, rfl, o, b⟩
    replace p0 := p0.below b; replace p1 := p1.below b; replace p2 := p2.below b; replace B := B.trans (b.mono B.size); clear b
    obtain ⟨A3, n3, c3, rfl⟩ := own_one94 o
    have p3 := o.rd
    clear o
    go_upto_region 7 with (fail)
    refine wp_gen (fun Wv => Bx Wv (wa4.heap.size) (33) (#[.slice A3 n3 c3, .slice none 0 0, .int .i64 (-1), .bool false]) ∧ Below wa4.heap.size wa4 Wv) ⟨((Bx.at_ (by simp))), ((Below.refl _ wa4).alloc (by simp <;> omega) _)⟩ ?_
    rintro wa5 ⟨g1, b⟩
    replace p0 := p0.below b; replace p1 := p1.below b; replace p2 := p2.below b; replace p3 := p3.below b; replace B := B.trans (b.mono B.size); clear b
    have c_g1 := g1.cell; have f_g1 := g1.free; have a_g1 := fun o => (g1.alloc o).cell; have d_g1 := fun o o2 => ((g1.alloc o).alloc o2).cell; have e_g1 := fun o => (g1.alloc o).free
    go_wp2_with fail
    refine (D2.out _ (H.out.below B)).mono ?_
    rintro e wa6 ⟨x4, rfl, o, b⟩
    replace p0 := p0.below b; replace p1 := p1.below b; replace p2 := p2.below b; replace p3 := p3.below b; try clear c_g1 f_g1 a_g1 d_g1 e_g1
    replace g1 := g1.below b; have c_g1 := g1.cell; have f_g1 := g1.free; have a_g1 := fun o => (g1.alloc o).cell; have d_g1 := fun o o2 => ((g1.alloc o).alloc o2).cell; have e_g1 := fun o => (g1.alloc o).free; replace B := B.trans (b.mono B.size); clear b
    obtain ⟨A4, n4, c4, rfl⟩ := own_one94 o
    have p4 := o.rd
    clear o
    go_upto_region 8 with (fail)
    refine wp_gen (fun Wv => Bx Wv (wa6.heap.size) (33) (#[.slice A4 n4 c4, .slice none 0 0, .int .i64 (-1), .bool false]) ∧ Below wa6.heap.size wa6 Wv) ⟨((Bx.at_ (by simp))), ((Below.refl _ wa6).alloc (by simp <;> omega) _)⟩ ?_
    rintro wa7 ⟨g2, b⟩
    replace p0 := p0.below b; replace p1 := p1.below b; replace p2 := p2.below b; replace p3 := p3.below b; replace p4 := p4.below b; try clear c_g1 f_g1 a_g1 d_g1 e_g1
    replace g1 := g1.below b; have c_g1 := g1.cell; have f_g1 := g1.free; have a_g1 := fun o => (g1.alloc o).cell; have d_g1 := fun o o2 => ((g1.alloc o).alloc o2).cell; have e_g1 := fun o => (g1.alloc o).free; replace B := B.trans (b.mono B.size); clear b
    have c_g2 := g2.cell; have f_g2 := g2.free; have a_g2 := fun o => (g2.alloc o).cell; have d_g2 := fun o o2 => ((g2.alloc o).alloc o2).cell; have e_g2 := fun o => (g2.alloc o).free
    go_wp2_with fail
    refine (ST.out _ _ _ p1 p2).mono ?_
    rintro e wa8 ⟨rfl, b⟩
    replace p0 := p0.below b; replace p1 := p1.below b; replace p2 := p2.below b; replace p3 := p3.below b; replace p4 := p4.below b; try clear c_g1 f_g1 a_g1 d_g1 e_g1
    replace g1 := g1.below b; have c_g1 := g1.cell; have f_g1 := g1.free; have a_g1 := fun o => (g1.alloc o).cell; have d_g1 := fun o o2 => ((g1.alloc o).alloc o2).cell; have e_g1 := fun o => (g1.alloc o).free; try clear c_g2 f_g2 a_g2 d_g2 e_g2
    replace g2 := g2.below b; have c_g2 := g2.cell; have f_g2 := g2.free; have a_g2 := fun o => (g2.alloc o).cell; have d_g2 := fun o o2 => ((g2.alloc o).alloc o2).cell; have e_g2 := fun o => (g2.alloc o).free; replace B := B.trans (b.mono B.size); clear b
    go_wp2_with fail
    refine (DS.out _ _ _ p3 p4).mono ?_
    rintro e wa9 ⟨rfl, b⟩
    replace p0 := p0.below b; replace p3 := p3.below b; replace p4 := p4.below b; try clear c_g1 f_g1 a_g1 d_g1 e_g1
    replace g1 := g1.below b; have c_g1 := g1.cell; have f_g1 := g1.free; have a_g1 := fun o => (g1.alloc o).cell; have d_g1 := fun o o2 => ((g1.alloc o).alloc o2).cell; have e_g1 := fun o => (g1.alloc o).free; try clear c_g2 f_g2 a_g2 d_g2 e_g2
    replace g2 := g2.below b; have c_g2 := g2.cell; have f_g2 := g2.free; have a_g2 := fun o => (g2.alloc o).cell; have d_g2 := fun o o2 => ((g2.alloc o).alloc o2).cell; have e_g2 := fun o => (g2.alloc o).free; replace B := B.trans (b.mono B.size); clear b
    go_wp2_with fail
    refine (S3.out _ _ _ p0 (H.out.below B)).mono ?_
    rintro e wa10 ⟨rfl, b⟩
    replace p0 := p0.below b; replace B := B.trans (b.mono B.size); clear b
    go_wp2
    go_ret
    exact ⟨rfl, B⟩
  case neg =>
    have D1 := Lib.hid (fun v w h => Device_no n v T r hr h0 w h)
    have D2 := Lib.hid (fun w h => DeviceR36_no n v1 T r hr h0 w h)
    have DS := Lib.hid (fun w => Same03_eq (.slice none 0 0) (.slice none 0 0) [] 0 w (OwnW.nil w 0 64).rd (OwnW.nil w 0 64).rd)
    clear hr hl h0
    go_enter Try.func3, Try.ntmps3
    go_wp2_with fail
    refine (GT.out _ H.out).mono ?_
    rintro e w2 ⟨rfl, rfl⟩
    go_wp2_with fail
    refine (TT.out _ H.out).mono ?_
    rintro e wa1 ⟨y, rfl, o, b⟩
    replace B := B.trans (b.mono B.size); clear b
    have p0 := o.rd
    have one : y.oneCell' = true := by obtain ⟨_, _, ⟨A, c, rfl, _⟩, _⟩ := id p0; rfl
    clear o
    go_wp2_with fail
    refine (I1.out _ _ p0).mono ?_
    rintro e wa2 ⟨x1, rfl, o, b⟩
    replace p0 := p0.below b; replace B := B.trans (b.mono B.size); clear b
    have p1 := o.rd
    clear o
    go_wp2_with fail
    refine (I2.out _ (H.out.below B)).mono ?_
    rintro e wa3 ⟨x2, rfl, o, b⟩
    replace p0 := p0.below b; replace p1 := p1.below b; replace B := B.trans (b.mono B.size); clear b
    have p2 := o.rd
    clear o
    go_wp2_with fail
    refine (D1.out _ _ p0).mono ?_
    rintro e wa4 ⟨rfl, b⟩
    replace p0 := p0.below b; replace p1 := p1.below b; replace p2 := p2.below b; replace B := B.trans (b.mono B.size); clear b
    go_upto_region 7 with (fail)
    refine wp_gen (fun Wv => Bx Wv (wa4.heap.size) (33) (#[.slice none 0 0, .slice none 0 0, .int .i64 0, .bool false]) ∧ Below wa4.heap.size wa4 Wv) ⟨((Bx.at_ (by simp))), ((Below.refl _ wa4).alloc (by simp <;> omega) _)⟩ ?_
    rintro wa5 ⟨g1, b⟩
    replace p0 := p0.below b; replace p1 := p1.below b; replace p2 := p2.below b; replace B := B.trans (b.mono B.size); clear b
    have c_g1 := g1.cell; have f_g1 := g1.free; have a_g1 := fun o => (g1.alloc o).cell; have d_g1 := fun o o2 => ((g1.alloc o).alloc o2).cell; have e_g1 := fun o => (g1.alloc o).free
    go_wp2_with fail
    refine (D2.out _ (H.out.below B)).mono ?_
    rintro e wa6 ⟨rfl, b⟩
    replace p0 := p0.below b; replace p1 := p1.below b; replace p2 := p2.below b; try clear c_g1 f_g1 a_g1 d_g1 e_g1
    replace g1 := g1.below b; have c_g1 := g1.cell; have f_g1 := g1.free; have a_g1 := fun o => (g1.alloc o).cell; have d_g1 := fun o o2 => ((g1.alloc o).alloc o2).cell; have e_g1 := fun o => (g1.alloc o).free; replace B := B.trans (b.mono B.size); clear b
    go_upto_region 8 with (fail)
    refine wp_gen (fun Wv => Bx Wv (wa6.heap.size) (33) (#[.slice none 0 0, .slice none 0 0, .int .i64 0, .bool false]) ∧ Below wa6.heap.size wa6 Wv) ⟨((Bx.at_ (by simp))), ((Below.refl _ wa6).alloc (by simp <;> omega) _)⟩ ?_
    rintro wa7 ⟨g2, b⟩
    replace p0 := p0.below b; replace p1 := p1.below b; replace p2 := p2.below b; try clear c_g1 f_g1 a_g1 d_g1 e_g1
    replace g1 := g1.below b; have c_g1 := g1.cell; have f_g1 := g1.free; have a_g1 := fun o => (g1.alloc o).cell; have d_g1 := fun o o2 => ((g1.alloc o).alloc o2).cell; have e_g1 := fun o => (g1.alloc o).free; replace B := B.trans (b.mono B.size); clear b
    have c_g2 := g2.cell; have f_g2 := g2.free; have a_g2 := fun o => (g2.alloc o).cell; have d_g2 := fun o o2 => ((g2.alloc o).alloc o2).cell; have e_g2 := fun o => (g2.alloc o).free
    go_wp2_with fail
    refine (ST.out _ _ _ p1 p2).mono ?_
    rintro e wa8 ⟨rfl, b⟩
    replace p0 := p0.below b; replace p1 := p1.below b; replace p2 := p2.below b; try clear c_g1 f_g1 a_g1 d_g1 e_g1
    replace g1 := g1.below b; have c_g1 := g1.cell; have f_g1 := g1.free; have a_g1 := fun o => (g1.alloc o).cell; have d_g1 := fun o o2 => ((g1.alloc o).alloc o2).cell; have e_g1 := fun o => (g1.alloc o).free; try clear c_g2 f_g2 a_g2 d_g2 e_g2
    replace g2 := g2.below b; have c_g2 := g2.cell; have f_g2 := g2.free; have a_g2 := fun o => (g2.alloc o).cell; have d_g2 := fun o o2 => ((g2.alloc o).alloc o2).cell; have e_g2 := fun o => (g2.alloc o).free; replace B := B.trans (b.mono B.size); clear b
    go_wp2_with fail
    refine (DS.out _).mono ?_
    rintro e wa9 ⟨rfl, b⟩
    replace p0 := p0.below b; try clear c_g1 f_g1 a_g1 d_g1 e_g1
    replace g1 := g1.below b; have c_g1 := g1.cell; have f_g1 := g1.free; have a_g1 := fun o => (g1.alloc o).cell; have d_g1 := fun o o2 => ((g1.alloc o).alloc o2).cell; have e_g1 := fun o => (g1.alloc o).free; try clear c_g2 f_g2 a_g2 d_g2 e_g2
    replace g2 := g2.below b; have c_g2 := g2.cell; have f_g2 := g2.free; have a_g2 := fun o => (g2.alloc o).cell; have d_g2 := fun o o2 => ((g2.alloc o).alloc o2).cell; have e_g2 := fun o => (g2.alloc o).free; replace B := B.trans (b.mono B.size); clear b
    go_wp2_with fail
    refine (S3.out _ _ _ p0 (H.out.below B)).mono ?_
    rintro e wa10 ⟨rfl, b⟩
    replace p0 := p0.below b; replace B := B.trans (b.mono B.size); clear b
    go_wp2
    go_ret
    exact ⟨rfl, B⟩

end Go.Proofs.Ytodbbacmdjcheaa
