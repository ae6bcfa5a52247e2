/- The walk of the law TwinAgain. -/
import Derived.Test.YtcfohfphhpmmdaaWa07
set_option linter.unusedVariables false
set_option linter.unusedSimpArgs false
namespace Go.Proofs.Ytcfohfphhpmmdaa
open Go.RowKit L02 L05 L06 L07

theorem sup_neqA (a b c d : Int) (r : Bool) (hr : r = !(a == c && b == d)) (W : World) : (binOp .neq 26 (.agg #[.int .i64 a, .int .i64 b]) (.agg #[.int .i64 c, .int .i64 d])).run Try.prog W = .ok (.bool r) W := by
  subst hr
  cases h : (a == c) <;> cases h2 : (b == d) <;> simp [go_sem, h, h2]

theorem quo8 (i : Nat) (q : Int) (hq : q = ((i / 8 : Nat) : Int)) (hi : i < 16) (W : World) : (binOp .quo 3 (.int .i64 (i : Int)) (.int .i64 8)).run Try.prog W = .ok (.int .i64 q) W := by
  subst hq
  have h : i = 0 ∨ i = 1 ∨ i = 2 ∨ i = 3 ∨ i = 4 ∨ i = 5 ∨ i = 6 ∨ i = 7 ∨ i = 8 ∨ i = 9 ∨ i = 10 ∨ i = 11 ∨ i = 12 ∨ i = 13 ∨ i = 14 ∨ i = 15 := by omega
  rcases h with rfl | rfl | rfl | rfl | rfl | rfl | rfl | rfl | rfl | rfl | rfl | rfl | rfl | rfl | rfl | rfl <;> simp [go_sem] <;> rfl

set_option maxRecDepth 100000 in
set_option maxHeartbeats 8000000 in
theorem TwinAgain_walk (v0 : Value) (m : List UInt64) (w : World) (h0 : Words w v0 m) : Calls Try.prog 5 #[v0] w fun e w' => e = .returned (.bool true) ∧ Below w.heap.size w w' := by
  have B : Below w.heap.size w w := Below.refl _ _
  have H := Lib.hid h0; clear h0
  by_cases hbig : 2100 < m.length
  · skip
    go_enter Try.func5, Try.ntmps5
    go_wp2_with fail
    refine (Great_any _ _ _ (H.out.below B)).mono ?_
    rw [decide_eq_true hbig]
    rintro e w' ⟨rfl, rfl⟩
    go_wp2_with fail
    refine (alive07_any _).mono ?_
    rintro e wa1 ⟨rfl, b⟩
    replace B := B.trans (b.mono B.size); clear b
    go_wp2
    go_ret
    exact ⟨rfl, B⟩
  have HBG := Lib.hid (decide_eq_false hbig)
  obtain ⟨W, hW⟩ : ∃ x, x = sW m := ⟨_, rfl⟩
  obtain ⟨T, hT⟩ : ∃ x, x = sT m := ⟨_, rfl⟩
  obtain ⟨b0, hb0⟩ : ∃ x, x = is0 m := ⟨_, rfl⟩
  obtain ⟨b1, hb1⟩ : ∃ x, x = is1 m := ⟨_, rfl⟩
  obtain ⟨V, hV⟩ : ∃ x, x = view m := ⟨_, rfl⟩
  obtain ⟨E, hE⟩ : ∃ x, x = heals m := ⟨_, rfl⟩
  obtain ⟨r, hr⟩ : ∃ x, x = rErr m := ⟨_, rfl⟩
  have R1 := Lib.hid (fun v w h => TRead_any v m W T b0 b1 r hW hT hb0 hb1 hr w h)
  have V1 := Lib.hid (fun v w h => TView_any v m V r hV hr w h)
  have H1 := Lib.hid (fun v w h => THeal_any v m E r hE hr w h)
  by_cases hr0 : rErr m = 0
  rotate_left
  · obtain ⟨n1, n2, n3, n4⟩ := heals_no hr0
    have hne : (r != 0) = true := by rw [bne_iff_ne, hr]; exact hr0
    obtain rfl : V = [] := hV.trans n1
    obtain rfl : E = [] := hE.trans n2
    obtain rfl : W = 0 := hW.trans n3
    obtain rfl : T = 0 := hT.trans n4
    have Q1 := Lib.hid (fun U => sup7_eql 0 0 0 0 true (by simp) U)
    clear n1 n2 n3 n4 hV hE hW hT hb0 hb1 hr hr0 hbig
    go_enter Try.func5, Try.ntmps5
    go_wp2_with fail
    refine (Great_any _ _ _ (H.out.below B)).mono ?_
    rw [HBG.out]
    rintro e w' ⟨rfl, rfl⟩
    go_wp2_with fail
    refine (R1.out _ _ (H.out.below B)).mono ?_
    rintro e wa1 ⟨rfl, b⟩
    replace B := B.trans (b.mono B.size); clear b
    go_upto_region 4 with (fail)
    refine wp_gen (fun Wv => Bx Wv (wa1.heap.size) (26) (#[.int .i64 0, .int .i64 0]) ∧ Below wa1.heap.size wa1 Wv) ⟨(((Bx.at_ (by simp)).alloc _)), (((Below.refl _ wa1).alloc (by simp <;> omega) _).alloc (by simp <;> omega) _)⟩ ?_
    rintro wa2 ⟨g3, b⟩
    replace B := B.trans (b.mono B.size); clear b
    have c_g3 := g3.cell; have f_g3 := g3.free; have a_g3 := fun o => (g3.alloc o).cell; have d_g3 := fun o o2 => ((g3.alloc o).alloc o2).cell; have e_g3 := fun o => (g3.alloc o).free
    have G3 := Lib.hid g3
    have B1 : Below wa2.heap.size wa2 wa2 := Below.refl _ _
    clear g3 c_g3 f_g3 a_g3 d_g3 e_g3
    go_wp2_with fail
    refine (V1.out _ _ (H.out.below B)).mono ?_
    rintro e wa3 ⟨x5, rfl, o5, b⟩
    replace B1 := B1.trans (b.mono B1.size); replace B := B.trans (b.mono B.size); clear b
    go_wp2_with fail
    refine (H1.out _ _ (H.out.below B)).mono ?_
    rintro e wa4 ⟨x6, rfl, o6, b⟩
    replace B1 := B1.trans (b.mono B1.size); replace o5 := o5.below b; replace B := B.trans (b.mono B.size); clear b
    have l5 : ∀ ty U, (Builtin.len_ #[22] ty #[x5]).run Try.prog U = .ok (.int .i64 0) U := Rd.len o5.rd Try.underlying22
    have l6 : ∀ ty U, (Builtin.len_ #[37] ty #[x6]).run Try.prog U = .ok (.int .i64 0) U := Rd.len o6.rd Try.underlying37
    have c3 := (G3.out.below B1).cell
    have q1 := Q1.out
    go_wp2_with fail
    clear c3 q1
    refine (alive07_any _).mono ?_
    rintro e wx ⟨rfl, b⟩
    replace B := B.trans (b.mono B.size)
    go_wp2
    go_ret
    exact ⟨rfl, B⟩
  · obtain ⟨s0, s1, s2, s3, s4, s5, s6⟩ := again hr0
    rw [← hV] at s0 s1 s2 s3 s4 s5 s6
    obtain rfl : r = 0 := hr.trans hr0
    have R2 := Lib.hid (fun v w h => TRead_any v V W T true true 0 (by rw [s3]; exact hW) (by rw [s4]; exact hT) s0.symm s1.symm s2.symm w h)
    have H2 := Lib.hid (fun v w h => THeal_any v V [] 0 s6.symm s2.symm w h)
    obtain ⟨d1, d2⟩ := diff_ok hr0
    obtain ⟨d, hd⟩ : ∃ d, d = diffs m V := ⟨_, rfl⟩
    have DT := Lib.hid (fun va vb w ha hb => Diff_any va vb m V w ha hb)
    have D1 := Lib.hid (show diffErr m V = 0 by rw [hV]; exact d1)
    have D2 := Lib.hid hd
    obtain ⟨n, hn⟩ : ∃ n, n = E.length := ⟨_, rfl⟩
    have hdn : d.length = n := by rw [hd, hn, hE, heals_len hr0, hV]
    have hVn : V.length = m.length := by rw [hV]; exact view_len hr0
    have h256 := (rErr_ok hr0).1.1
    have hor : b0 = true ∨ b0 = false ∧ b1 = true := by
      have := (rErr_ok hr0).2
      rw [← hb0, ← hb1] at this
      cases b0
      · exact .inr ⟨rfl, by simpa using this⟩
      · exact .inl rfl
    have hat : ∀ (k : Nat) (x : Int) (y : UInt64), E[k]? = some (x, y) → d[k]? = some x ∧ ∃ i : Nat, x = (i : Int) ∧ i < 16 ∧ V[i]? = some y ∧ (if b0 = true then 8 ≤ i else i < 8) := by
      intro k x y h
      rw [hE] at h
      have := heals_at hr0 h
      rw [← hV, ← hd, ← hb0] at this
      exact this
    have HAT := Lib.hid hat; have HN := Lib.hid (And.intro hn (And.intro hdn hVn)); have H256 := Lib.hid h256; have HOR := Lib.hid hor
    have Q1 := Lib.hid (fun U => sup_neqA W T W T false (by simp) U)
    have Q2 := Lib.hid (fun U => bb_neq true true true true false (by simp) U)
    clear hV hE hW hT hb0 hb1 hr hr0 hbig s0 s1 s2 s3 s4 s5 s6 d1 d2 hd hn hdn hVn h256 hor hat
    go_enter Try.func5, Try.ntmps5
    go_wp2_with fail
    refine (Great_any _ _ _ (H.out.below B)).mono ?_
    rw [HBG.out]
    rintro e w' ⟨rfl, rfl⟩
    go_wp2_with fail
    refine (R1.out _ _ (H.out.below B)).mono ?_
    rintro e wa1 ⟨rfl, b⟩
    replace B := B.trans (b.mono B.size); clear b
    go_upto_region 4 with (fail)
    refine wp_gen (fun Wv => Bx Wv (wa1.heap.size) (26) (#[.int .i64 W, .int .i64 T]) ∧ Bx Wv (wa1.heap.size + 1) (27) (#[.bool b0, .bool b1]) ∧ Below wa1.heap.size wa1 Wv) ⟨(((Bx.at_ (by simp)).alloc _)), ((Bx.at_ (by simp))), (((Below.refl _ wa1).alloc (by simp <;> omega) _).alloc (by simp <;> omega) _)⟩ ?_
    rintro wa2 ⟨g3, g4, b⟩
    replace B := B.trans (b.mono B.size); clear b
    have c_g3 := g3.cell; have f_g3 := g3.free; have a_g3 := fun o => (g3.alloc o).cell; have d_g3 := fun o o2 => ((g3.alloc o).alloc o2).cell; have e_g3 := fun o => (g3.alloc o).free
    have c_g4 := g4.cell; have f_g4 := g4.free; have a_g4 := fun o => (g4.alloc o).cell; have d_g4 := fun o o2 => ((g4.alloc o).alloc o2).cell; have e_g4 := fun o => (g4.alloc o).free
    have G3 := Lib.hid g3; have G4 := Lib.hid g4
    have B1 : Below wa2.heap.size wa2 wa2 := Below.refl _ _
    clear g3 c_g3 f_g3 a_g3 d_g3 e_g3 g4 c_g4 f_g4 a_g4 d_g4 e_g4
    go_wp2_with fail
    refine (V1.out _ _ (H.out.below B)).mono ?_
    rintro e wa3 ⟨x5, rfl, o5, b⟩
    replace B1 := B1.trans (b.mono B1.size); replace B := B.trans (b.mono B.size); clear b
    go_wp2_with fail
    refine (H1.out _ _ (H.out.below B)).mono ?_
    rintro e wa4 ⟨x6, rfl, o6, b⟩
    replace B1 := B1.trans (b.mono B1.size); replace o5 := o5.below b; replace B := B.trans (b.mono B.size); clear b
    go_wp2_with fail
    refine (R2.out _ _ o5.rd).mono ?_
    rintro e wa5 ⟨rfl, b⟩
    replace B1 := B1.trans (b.mono B1.size); replace o5 := o5.below b; replace o6 := o6.below b; replace B := B.trans (b.mono B.size); clear b
    go_upto_region 11 with (fail)
    refine wp_gen (fun Wv => Bx Wv (wa5.heap.size) (26) (#[.int .i64 W, .int .i64 T]) ∧ Bx Wv (wa5.heap.size + 1) (27) (#[.bool true, .bool true]) ∧ Below wa5.heap.size wa5 Wv) ⟨(((Bx.at_ (by simp)).alloc _)), ((Bx.at_ (by simp))), (((Below.refl _ wa5).alloc (by simp <;> omega) _).alloc (by simp <;> omega) _)⟩ ?_
    rintro wa6 ⟨g10, g11, b⟩
    replace B1 := B1.trans (b.mono B1.size); replace o5 := o5.below b; replace o6 := o6.below b; replace B := B.trans (b.mono B.size); clear b
    have c_g10 := g10.cell; have f_g10 := g10.free; have a_g10 := fun o => (g10.alloc o).cell; have d_g10 := fun o o2 => ((g10.alloc o).alloc o2).cell; have e_g10 := fun o => (g10.alloc o).free
    have c_g11 := g11.cell; have f_g11 := g11.free; have a_g11 := fun o => (g11.alloc o).cell; have d_g11 := fun o o2 => ((g11.alloc o).alloc o2).cell; have e_g11 := fun o => (g11.alloc o).free
    have G10 := Lib.hid g10; have G11 := Lib.hid g11
    have B2 : Below wa6.heap.size wa6 wa6 := Below.refl _ _
    clear g10 c_g10 f_g10 a_g10 d_g10 e_g10 g11 c_g11 f_g11 a_g11 d_g11 e_g11
    go_wp2_with fail
    refine (H2.out _ _ o5.rd).mono ?_
    rintro e wa7 ⟨x7, rfl, o7, b⟩
    replace B1 := B1.trans (b.mono B1.size); replace B2 := B2.trans (b.mono B2.size); replace o5 := o5.below b; replace o6 := o6.below b; replace B := B.trans (b.mono B.size); clear b
    go_wp2_with fail
    refine (DT.out _ _ _ (H.out.below B) o5.rd).mono ?_
    rw [D1.out, ← D2.out]
    rintro e wx ⟨x8, rfl, o8, b⟩
    replace o5 := o5.below b; replace o6 := o6.below b; replace B := B.trans (b.mono B.size); replace B1 := B1.trans (b.mono B1.size); replace B2 := B2.trans (b.mono B2.size)
    clear b
    have l6 := Rd.len o6.rd Try.underlying37
    have l7 : ∀ ty U, (Builtin.len_ #[37] ty #[x7]).run Try.prog U = .ok (.int .i64 0) U := Rd.len o7.rd Try.underlying37
    have l8 := Rd.len o8.rd Try.underlying47
    have l5 := Rd.len o5.rd Try.underlying22
    have hle := Rd.len_le o6.rd
    rw [← HN.out.1] at l6 hle
    rw [HN.out.2.1] at l8
    have c3 := (G3.out.below B1).cell; have c4 := (G4.out.below B1).cell; have c10 := (G10.out.below B2).cell; have c11 := (G11.out.below B2).cell
    have q1 := Q1.out; have q2 := Q2.out
    have O5 := Lib.hid o5.rd; have O6 := Lib.hid o6.rd; have O8 := Lib.hid o8.rd; have BB := Lib.hid B
    clear o5 o6 o7 o8 B B1 B2
    rcases HOR.out with rfl | ⟨rfl, rfl⟩
    all_goals
      go_upto_region 15 with (fail)
      clear c3 c4 c10 c11 q1 q2
      go_wp2
      have B0 : Below wx.heap.size wx wx := Below.refl _ _
      have HB0 := Lib.hid B0; clear B0
      go_loopg [17] n (fun g i wr => ∃ k : Nat, k ≤ n ∧ g = n - k ∧ i = .int .i64 k ∧ Hid (Below wx.heap.size wx wr))
      case atStart => exact ⟨0, by omega, by omega, rfl, HB0⟩
      case round =>
        obtain ⟨k, hk, rfl, rfl, hB⟩ := hrel
        by_cases hlt : k < n
        · obtain ⟨bb, oo, x, y, ia, m0, m1, hh⟩ := (O6.out.below hB.out).at_ (k := k) (by have := HN.out.1; omega)
          obtain ⟨hd, i, rfl, hi, hv, hs⟩ := HAT.out k x y hh.out
          obtain ⟨_, _, x0, y0, _, _, _, hh0⟩ := (O6.out.below hB.out).at_ (k := 0) (by have := HN.out.1; omega)
          obtain ⟨hd0, i0, rfl, hi0, _, hs0⟩ := HAT.out 0 x0 y0 hh0.out
          obtain ⟨cd, c, ic, m2, hc⟩ := (O8.out.below hB.out).at_ (P := Try.prog) Try.underlying47 one_int (k := k) (by have := HN.out.2.1; omega)
          obtain rfl : (i : Int) = c := by have := hc.out; rw [hd] at this; injection this
          obtain ⟨cd0, c0', ic0, m3, hc0⟩ := (O8.out.below hB.out).at_ (P := Try.prog) Try.underlying47 one_int (k := 0) (by have := HN.out.2.1; omega)
          obtain rfl : (i0 : Int) = c0' := by have := hc0.out; rw [hd0] at this; injection this
          obtain ⟨ed, z, ie, m4, hz⟩ := (O5.out.below hB.out).at_ (P := Try.prog) Try.underlying22 one_u64 (k := i) (by have := (List.getElem?_eq_some_iff.1 hv).1; exact this)
          obtain rfl : y = z := by have := hz.out; rw [hv] at this; injection this
          have hvl := (List.getElem?_eq_some_iff.1 hv).1
          replace ic0 : ∀ W, (Instr.indexAt 47 x8 (.int .i64 0)).run Try.prog W = .ok (.pointer (some cd0)) W := ic0
          have e1 : decide ((i : Int) < 0) = false := decide_eq_false (by omega)
          have e2 : decide ((15 : Int) < (i : Int)) = false := decide_eq_false (by omega)
          have e3 : decide ((V.length : Int) ≤ (i : Int)) = false := decide_eq_false (by omega)
          have e3' : decide (V.length ≤ i) = false := decide_eq_false (by omega)
          have e4 : (i : Int) / 8 = (i0 : Int) / 8 := by simp at hs hs0; omega
          have e4b : (wrap64 ((i : Int) / 8) != wrap64 ((i0 : Int) / 8)) = false := by rw [e4]; simp
          clear e4
          have n0 : (0 : Int) ≤ (k : Int) := by omega
          have n1 : (0 : Int) ≤ (i : Int) := by omega
          have n2 : (0 : Int) < (n : Int) := by omega
          have hvl' : (i : Int) < (V.length : Int) := by omega
          have B := hB.out
          clear hh hh0 hd hd0 hc hc0 hv hz hs hs0 hi hi0 hvl
          go_wp2
          refine wp_region_calm (by kernel_rfl) (by kernel_rfl) ?_
          have c_m0 := fun x : Fut _ => cell_later x.h m0
          have c_m1 := fun x : Fut _ => cell_later x.h m1
          have c_m2 := fun x : Fut _ => cell_later x.h m2
          have c_m3 := fun x : Fut _ => cell_later x.h m3
          have c_m4 := fun x : Fut _ => cell_later x.h m4
          repeat (go_big_quiet_step (fail))
          refine wpQuiet_nil ?_
          intro _ hw'
          obtain ⟨xq, hw''⟩ := hw'
          subst hw''
          clear c_m0; replace m0 := cell_later xq.h m0
          clear c_m1; replace m1 := cell_later xq.h m1
          clear c_m2; replace m2 := cell_later xq.h m2
          clear c_m3; replace m3 := cell_later xq.h m3
          clear c_m4; replace m4 := cell_later xq.h m4
          replace B := B.trans (xq.h.mono B.size)
          have HBB := Lib.hid B; clear B
          go_wp2
          go_roundg (n - (k + 1))
          case measure => omega
          case rel => exact ⟨k + 1, by omega, rfl, by go_num, HBB⟩
        · obtain rfl : k = n := by omega
          go_wp2_with fail
          refine (alive07_any _).mono ?_
          rintro e wx2 ⟨rfl, b⟩
          have B2 := (BB.out.trans (hB.out.mono BB.out.size)).trans (b.mono (BB.out.trans (hB.out.mono BB.out.size)).size)
          clear b
          go_wp2
          go_ret
          exact ⟨rfl, B2⟩
end Go.Proofs.Ytcfohfphhpmmdaa
