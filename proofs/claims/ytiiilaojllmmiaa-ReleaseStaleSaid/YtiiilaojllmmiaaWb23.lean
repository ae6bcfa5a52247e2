/- The walk of the law ReleaseStale. -/
import Derived.Test.YtiiilaojllmmiaaMRu
set_option linter.unusedVariables false
set_option linter.unusedSimpArgs false
namespace Go.Proofs.Ytiiilaojllmmiaa
open Go.RowKit L02 L05 L13 L14 L18 L19 L20

set_option maxRecDepth 100000 in
set_option maxHeartbeats 16000000 in
theorem ReleaseStale_walk (v0 : Value) (l : List UInt64) (a0 b0 : Int) (w : World) (h0 : Words w v0 l) (_f1 : -9223372036854775808 ≤ a0 ∧ a0 ≤ 9223372036854775807) (_f2 : -9223372036854775808 ≤ b0 ∧ b0 ≤ 9223372036854775807) :
    Calls Try.prog 5 #[v0, .agg #[.int .i64 a0, .int .i64 b0]] w fun e w' => e = .returned (.bool true) ∧ Below w.heap.size w w' := by
  have B : Below w.heap.size w w := Below.refl _ _
  have H := Lib.hid h0; clear h0 _f1 _f2
  have AL := Lib.hid alive23_any
  have G := Lib.hid (fun w h => Great_any v0 l w h)
  obtain ⟨gr, hgr⟩ : ∃ g, g = decide (2100 < l.length) := ⟨_, rfl⟩
  have HGR := Lib.hid hgr
  rw [← hgr] at G
  clear hgr
  cases gr
  case true =>
    go_enter Try.func5, Try.ntmps5
    go_upto_region 1 with (fail)
    refine wp_gen (fun Wv => Bx Wv (w.heap.size) (24) (#[.int .i64 a0, .int .i64 b0]) ∧ Below w.heap.size w Wv) ⟨((Bx.at_ (by simp))), ((Below.refl _ w).alloc (by simp <;> omega) _)⟩ ?_
    rintro wa1 ⟨g1, b⟩
    replace B := B.trans (b.mono B.size); clear b
    have c_g1 := g1.cell; have f_g1 := g1.free; have a_g1 := fun o => (g1.alloc o).cell; have d_g1 := fun o o2 => ((g1.alloc o).alloc o2).cell; have e_g1 := fun o => (g1.alloc o).free
    go_wp2_with fail
    refine (AL.out _).mono ?_
    rintro e wa2 ⟨rfl, b⟩
    try clear c_g1 f_g1 a_g1 d_g1 e_g1
    replace g1 := g1.below b; have c_g1 := g1.cell; have f_g1 := g1.free; have a_g1 := fun o => (g1.alloc o).cell; have d_g1 := fun o o2 => ((g1.alloc o).alloc o2).cell; have e_g1 := fun o => (g1.alloc o).free; replace B := B.trans (b.mono B.size); clear b
    go_wp2_with fail
    refine (G.out _ (H.out.below B)).mono ?_
    rintro e w2 ⟨rfl, rfl⟩
    go_wp2
    go_ret
    exact ⟨rfl, B⟩
  case false =>
    have hln : l.length ≤ 1048576 := by have := HGR.out; simp at this; omega
    obtain ⟨c, hc⟩ : ∃ v, v = chk19 l := ⟨_, rfl⟩
    have CK := Lib.hid (fun w h => Check19_any v0 l c hc w h)
    by_cases h0 : c = 0
    case neg =>
      have n1 : (c != 0) = true := by rw [bne_iff_ne]; exact h0
      clear hc h0 hln
      go_enter Try.func5, Try.ntmps5
      go_upto_region 1 with (fail)
      refine wp_gen (fun Wv => Bx Wv (w.heap.size) (24) (#[.int .i64 a0, .int .i64 b0]) ∧ Below w.heap.size w Wv) ⟨((Bx.at_ (by simp))), ((Below.refl _ w).alloc (by simp <;> omega) _)⟩ ?_
      rintro wa1 ⟨g1, b⟩
      replace B := B.trans (b.mono B.size); clear b
      have c_g1 := g1.cell; have f_g1 := g1.free; have a_g1 := fun o => (g1.alloc o).cell; have d_g1 := fun o o2 => ((g1.alloc o).alloc o2).cell; have e_g1 := fun o => (g1.alloc o).free
      go_wp2_with fail
      refine (AL.out _).mono ?_
      rintro e wa2 ⟨rfl, b⟩
      try clear c_g1 f_g1 a_g1 d_g1 e_g1
      replace g1 := g1.below b; have c_g1 := g1.cell; have f_g1 := g1.free; have a_g1 := fun o => (g1.alloc o).cell; have d_g1 := fun o o2 => ((g1.alloc o).alloc o2).cell; have e_g1 := fun o => (g1.alloc o).free; replace B := B.trans (b.mono B.size); clear b
      go_wp2_with fail
      refine (G.out _ (H.out.below B)).mono ?_
      rintro e w2 ⟨rfl, rfl⟩
      go_wp2_with fail
      refine (CK.out _ (H.out.below B)).mono ?_
      rintro e wa3 ⟨rfl, b⟩
      try clear c_g1 f_g1 a_g1 d_g1 e_g1
      replace g1 := g1.below b; have c_g1 := g1.cell; have f_g1 := g1.free; have a_g1 := fun o => (g1.alloc o).cell; have d_g1 := fun o o2 => ((g1.alloc o).alloc o2).cell; have e_g1 := fun o => (g1.alloc o).free; replace B := B.trans (b.mono B.size); clear b
      go_wp2
      go_ret
      exact ⟨rfl, B⟩
    case pos =>
      subst h0
      have rt : Rt l := Rt.of hc.symm
      obtain ⟨S, hS⟩ : ∃ S, S = slots l := ⟨_, rfl⟩
      have AT := Lib.hid (fun w h => All18_own v0 l S hS rt.sl w h)
      have hS16 : S.length = 16 := by rw [hS]; exact slots_len' rt.sl
      have H16 := Lib.hid hS16
      by_cases ha : askI l a0 b0 = 0
      case neg =>
        obtain ⟨p, hp⟩ : ∃ v, v = res l a0 b0 := ⟨_, rfl⟩
        obtain ⟨d, hd⟩ : ∃ v, v = resErr l a0 b0 := ⟨_, rfl⟩
        have RT := Lib.hid (fun w h => Resolve_any v0 l a0 b0 p d hp hd w h)
        have n1 : (d != 0) = true := by rw [bne_iff_ne, hd]; rw [askI, if_pos hc.symm] at ha; exact ha
        clear hc ha hp hd hln hS hS16 rt
        go_enter Try.func5, Try.ntmps5
        go_upto_region 1 with (fail)
        refine wp_gen (fun Wv => Bx Wv (w.heap.size) (24) (#[.int .i64 a0, .int .i64 b0]) ∧ Below w.heap.size w Wv) ⟨((Bx.at_ (by simp))), ((Below.refl _ w).alloc (by simp <;> omega) _)⟩ ?_
        rintro wa1 ⟨g1, b⟩
        replace B := B.trans (b.mono B.size); clear b
        have c_g1 := g1.cell; have f_g1 := g1.free; have a_g1 := fun o => (g1.alloc o).cell; have d_g1 := fun o o2 => ((g1.alloc o).alloc o2).cell; have e_g1 := fun o => (g1.alloc o).free
        go_wp2_with fail
        refine (AL.out _).mono ?_
        rintro e wa2 ⟨rfl, b⟩
        try clear c_g1 f_g1 a_g1 d_g1 e_g1
        replace g1 := g1.below b; have c_g1 := g1.cell; have f_g1 := g1.free; have a_g1 := fun o => (g1.alloc o).cell; have d_g1 := fun o o2 => ((g1.alloc o).alloc o2).cell; have e_g1 := fun o => (g1.alloc o).free; replace B := B.trans (b.mono B.size); clear b
        go_wp2_with fail
        refine (G.out _ (H.out.below B)).mono ?_
        rintro e w2 ⟨rfl, rfl⟩
        go_wp2_with fail
        refine (CK.out _ (H.out.below B)).mono ?_
        rintro e wa3 ⟨rfl, b⟩
        try clear c_g1 f_g1 a_g1 d_g1 e_g1
        replace g1 := g1.below b; have c_g1 := g1.cell; have f_g1 := g1.free; have a_g1 := fun o => (g1.alloc o).cell; have d_g1 := fun o o2 => ((g1.alloc o).alloc o2).cell; have e_g1 := fun o => (g1.alloc o).free; replace B := B.trans (b.mono B.size); clear b
        go_wp2_with fail
        refine (RT.out _ (H.out.below B)).mono ?_
        rintro e wa4 ⟨rfl, b⟩
        try clear c_g1 f_g1 a_g1 d_g1 e_g1
        replace g1 := g1.below b; have c_g1 := g1.cell; have f_g1 := g1.free; have a_g1 := fun o => (g1.alloc o).cell; have d_g1 := fun o o2 => ((g1.alloc o).alloc o2).cell; have e_g1 := fun o => (g1.alloc o).free; replace B := B.trans (b.mono B.size); clear b
        go_wp2_with fail
        refine (AT.out _ (H.out.below B)).mono ?_
        rintro e wa5 ⟨xs, rfl, os, b⟩
        try clear c_g1 f_g1 a_g1 d_g1 e_g1
        replace g1 := g1.below b; have c_g1 := g1.cell; have f_g1 := g1.free; have a_g1 := fun o => (g1.alloc o).cell; have d_g1 := fun o o2 => ((g1.alloc o).alloc o2).cell; have e_g1 := fun o => (g1.alloc o).free; replace B := B.trans (b.mono B.size); clear b
        go_wp2
        go_ret
        exact ⟨rfl, B⟩
      case pos =>
        obtain ⟨k, a, nn, q0, bk, t0, rfl, hh⟩ := Hd.of ha
        obtain ⟨E1, h1⟩ : ∃ v, v = fiL l k b0 := ⟨_, rfl⟩
        obtain ⟨r1, h2⟩ : ∃ v, v = fiE l k b0 := ⟨_, rfl⟩
        obtain ⟨E2, h3⟩ : ∃ v, v = diL l k b0 := ⟨_, rfl⟩
        obtain ⟨bb, h5⟩ : ∃ v, v = biE l k b0 := ⟨_, rfl⟩
        have RT := Lib.hid (fun w h => Resolve_any v0 l k b0 (a : Int) 0 hh.hres.symm hh.hr.symm w h)
        have BU := Lib.hid (fun w h => Busy23_any v0 l k b0 bb 0 h5 ha.symm w h)
        have FA := Lib.hid (fun w h => Free23_any v0 l k b0 E1 r1 h1 h2 w h)
        have DA := Lib.hid (fun w h => Drop23_any v0 l k b0 E2 0 h3 ha.symm w h)
        obtain ⟨d1, d2, d3, d4, d5, d6, d7, d8⟩ := hh.drop
        rw [← h3] at d3 d8
        have stl : ∀ l' : List UInt64, Rt l' → slots l' = S.set k ⟨b0, false, 0⟩ → resErr l' k b0 = 28 ∧ ∀ i : Nat, i ≠ k → (slots l')[i]? = S[i]? := fun l' r' e => by
          have hk := hh.hk
          have hs' : (slots l')[k]? = some ⟨b0, false, 0⟩ := by rw [e, List.getElem?_set_self (by omega)]
          refine ⟨by rw [(resErr_at r'.sl hs' b0).1]; simp, fun i hi => by rw [e, List.getElem?_set_ne (fun h => hi h.symm)]⟩
        have hdS := stl _ d3 (by rw [d8, hS])
        have SD := Lib.hid (fun ev sv w h he hs => stale23_any v0 ev sv l _ E2 S k b0 hln rfl hS16 d3.sl hdS.1 hdS.2 w h he hs)
        cases bb
        case true =>
          have hB : Busy (L19.seen l) k (L20.own (L19.seen l) k) := by
            have := h5
            rw [biE, decide_eq_true ha, Bool.true_and] at this
            exact of_decide_eq_true this.symm
          obtain rfl : r1 = 45 := by rw [h2, fiE, if_pos ha, if_pos hB]
          clear hc ha h1 h2 h3 h5 hh d1 d2 d3 d4 d5 d6 d7 d8 stl hdS hB hln hS hS16 rt
          go_enter Try.func5, Try.ntmps5
          go_upto_region 1 with (fail)
          refine wp_gen (fun Wv => Bx Wv (w.heap.size) (24) (#[.int .i64 (k : Int), .int .i64 b0]) ∧ Below w.heap.size w Wv) ⟨((Bx.at_ (by simp))), ((Below.refl _ w).alloc (by simp <;> omega) _)⟩ ?_
          rintro wa1 ⟨g1, b⟩
          replace B := B.trans (b.mono B.size); clear b
          have c_g1 := g1.cell; have f_g1 := g1.free; have a_g1 := fun o => (g1.alloc o).cell; have d_g1 := fun o o2 => ((g1.alloc o).alloc o2).cell; have e_g1 := fun o => (g1.alloc o).free
          go_wp2_with fail
          refine (AL.out _).mono ?_
          rintro e wa2 ⟨rfl, b⟩
          try clear c_g1 f_g1 a_g1 d_g1 e_g1
          replace g1 := g1.below b; have c_g1 := g1.cell; have f_g1 := g1.free; have a_g1 := fun o => (g1.alloc o).cell; have d_g1 := fun o o2 => ((g1.alloc o).alloc o2).cell; have e_g1 := fun o => (g1.alloc o).free; replace B := B.trans (b.mono B.size); clear b
          go_wp2_with fail
          refine (G.out _ (H.out.below B)).mono ?_
          rintro e w2 ⟨rfl, rfl⟩
          go_wp2_with fail
          refine (CK.out _ (H.out.below B)).mono ?_
          rintro e wa3 ⟨rfl, b⟩
          try clear c_g1 f_g1 a_g1 d_g1 e_g1
          replace g1 := g1.below b; have c_g1 := g1.cell; have f_g1 := g1.free; have a_g1 := fun o => (g1.alloc o).cell; have d_g1 := fun o o2 => ((g1.alloc o).alloc o2).cell; have e_g1 := fun o => (g1.alloc o).free; replace B := B.trans (b.mono B.size); clear b
          go_wp2_with fail
          refine (RT.out _ (H.out.below B)).mono ?_
          rintro e wa4 ⟨rfl, b⟩
          try clear c_g1 f_g1 a_g1 d_g1 e_g1
          replace g1 := g1.below b; have c_g1 := g1.cell; have f_g1 := g1.free; have a_g1 := fun o => (g1.alloc o).cell; have d_g1 := fun o o2 => ((g1.alloc o).alloc o2).cell; have e_g1 := fun o => (g1.alloc o).free; replace B := B.trans (b.mono B.size); clear b
          go_wp2_with fail
          refine (AT.out _ (H.out.below B)).mono ?_
          rintro e wa5 ⟨xs, rfl, os, b⟩
          try clear c_g1 f_g1 a_g1 d_g1 e_g1
          replace g1 := g1.below b; have c_g1 := g1.cell; have f_g1 := g1.free; have a_g1 := fun o => (g1.alloc o).cell; have d_g1 := fun o o2 => ((g1.alloc o).alloc o2).cell; have e_g1 := fun o => (g1.alloc o).free; replace B := B.trans (b.mono B.size); clear b
          have qs : Slots wa5 xs S := os.rd
          clear os
          go_wp2_with fail
          refine (BU.out _ (H.out.below B)).mono ?_
          rintro e wa6 ⟨rfl, b⟩
          try clear c_g1 f_g1 a_g1 d_g1 e_g1
          replace g1 := g1.below b; have c_g1 := g1.cell; have f_g1 := g1.free; have a_g1 := fun o => (g1.alloc o).cell; have d_g1 := fun o o2 => ((g1.alloc o).alloc o2).cell; have e_g1 := fun o => (g1.alloc o).free; replace qs := qs.below b; replace B := B.trans (b.mono B.size); clear b
          go_wp2_with fail
          refine (DA.out _ (H.out.below B)).mono ?_
          rintro e wa7 ⟨y2, rfl, o2, b⟩
          try clear c_g1 f_g1 a_g1 d_g1 e_g1
          replace g1 := g1.below b; have c_g1 := g1.cell; have f_g1 := g1.free; have a_g1 := fun o => (g1.alloc o).cell; have d_g1 := fun o o2 => ((g1.alloc o).alloc o2).cell; have e_g1 := fun o => (g1.alloc o).free; replace qs := qs.below b; replace B := B.trans (b.mono B.size); clear b
          have q2 := o2.rd
          clear o2
          go_wp2_with fail
          refine (FA.out _ (H.out.below B)).mono ?_
          rintro e wa8 ⟨y1, rfl, o1, b⟩
          try clear c_g1 f_g1 a_g1 d_g1 e_g1
          replace g1 := g1.below b; have c_g1 := g1.cell; have f_g1 := g1.free; have a_g1 := fun o => (g1.alloc o).cell; have d_g1 := fun o o2 => ((g1.alloc o).alloc o2).cell; have e_g1 := fun o => (g1.alloc o).free; replace qs := qs.below b; replace q2 := q2.below b; replace B := B.trans (b.mono B.size); clear b
          have q1 := o1.rd
          clear o1
          have ls := Rd.len qs Try.underlying50
          rw [H16.out] at ls
          have ls16 : ∀ ty W, (Builtin.len_ #[50] ty #[xs]).run Try.prog W = .ok (.int .i64 16) W := ls
          have HB := Lib.hid (And.intro g1 (And.intro qs (And.intro q2 B)))
          have HBB := Lib.hid (Below.refl wa8.heap.size wa8)
          have hB1 := B.size
          clear ls qs q1 q2 g1 B c_g1 f_g1 a_g1 d_g1 e_g1
          go_wp2
          go_loopg [16] 16 (fun gg i wr => ∃ j : Nat, j ≤ 16 ∧ gg = 16 - j ∧ i = .int .i64 j ∧ Hid (Below wa8.heap.size wa8 wr))
          case atStart => exact ⟨0, by omega, by omega, rfl, HBB⟩
          case round =>
            obtain ⟨j, hj, rfl, rfl, hh⟩ := hrel
            clear HBB
            have B2 := hh.out
            clear hh
            have B := HB.out.2.2.2.trans (B2.mono hB1)
            have g1 := HB.out.1.below B2
            by_cases hlt : j < 16
            · obtain ⟨b, o, s, ia, m0, m1, m2, hsk⟩ := (HB.out.2.1.below B2).at_ (P := Try.prog) Try.underlying50 size_slot (k := j) (by rw [H16.out]; exact hlt)
              have hcase := busy_cases (j : Int) (k : Int) s a
              have c_1 := g1.cell
              have HR := Lib.hid B2
              obtain ⟨gn, us, at9⟩ := s
              dsimp only at *
              clear hsk B2 B g1
              rcases hcase with e1 | ⟨e1, rfl⟩ | ⟨e1, rfl, e3⟩ | ⟨e1, rfl, e3⟩
              · go_wp2
                go_roundg (16 - (j + 1))
                case measure => omega
                case rel => exact ⟨j + 1, by omega, rfl, by go_num, HR⟩
              · go_wp2
                go_roundg (16 - (j + 1))
                case measure => omega
                case rel => exact ⟨j + 1, by omega, rfl, by go_num, HR⟩
              · go_wp2
                go_roundg (16 - (j + 1))
                case measure => omega
                case rel => exact ⟨j + 1, by omega, rfl, by go_num, HR⟩
              · go_wp2
                go_roundg (16 - (j + 1))
                case measure => omega
                case rel => exact ⟨j + 1, by omega, rfl, by go_num, HR⟩
            · obtain rfl : j = 16 := by omega
              have q2 := Rd.below HB.out.2.2.1 B2
              have qs := HB.out.2.1.below B2
              clear B2
              have c_g1 := g1.cell
              go_wp2_with fail
              refine (SD.out _ _ _ (H.out.below B) q2 qs).mono ?_
              rintro e wa9 ⟨rfl, b⟩
              replace B := B.trans (b.mono B.size); clear b
              go_wp2
              go_ret
              exact ⟨rfl, B⟩
        case false =>
          have hB : ¬ Busy (L19.seen l) k (L20.own (L19.seen l) k) := by
            have := h5
            rw [biE, decide_eq_true ha, Bool.true_and] at this
            exact of_decide_eq_false this.symm
          obtain rfl : r1 = 0 := by rw [h2, fiE, if_pos ha, if_neg hB]
          obtain ⟨i, mm, p, f1, f2, f3, f4, f5, f6, f7, f8, f9, f10, f11, f12, _⟩ := hh.free h2.symm
          rw [← h1] at f10 f12
          have hfS := stl _ f10 (by rw [f12, hS])
          have SF := Lib.hid (fun ev sv w h he hs => stale23_any v0 ev sv l _ E1 S k b0 hln rfl hS16 f10.sl hfS.1 hfS.2 w h he hs)
          rw [hh.busy, ← hS] at hB
          have HN := Lib.hid (fun (i : Nat) (s : Sl) (h1 : i ≠ k) (h2 : S[i]? = some s) (h3 : s.used = true) (h4 : s.at_ = (a : Int)) => hB (.inl ⟨i, s, h1, h2, h3, h4⟩))
          clear hc ha h1 h2 h3 h5 hh d1 d2 d3 d4 d5 d6 d7 d8 f1 f2 f3 f4 f5 f6 f7 f8 f9 f10 f11 f12 stl hdS hfS hB hln hS hS16 rt
          go_enter Try.func5, Try.ntmps5
          go_upto_region 1 with (fail)
          refine wp_gen (fun Wv => Bx Wv (w.heap.size) (24) (#[.int .i64 (k : Int), .int .i64 b0]) ∧ Below w.heap.size w Wv) ⟨((Bx.at_ (by simp))), ((Below.refl _ w).alloc (by simp <;> omega) _)⟩ ?_
          rintro wa1 ⟨g1, b⟩
          replace B := B.trans (b.mono B.size); clear b
          have c_g1 := g1.cell; have f_g1 := g1.free; have a_g1 := fun o => (g1.alloc o).cell; have d_g1 := fun o o2 => ((g1.alloc o).alloc o2).cell; have e_g1 := fun o => (g1.alloc o).free
          go_wp2_with fail
          refine (AL.out _).mono ?_
          rintro e wa2 ⟨rfl, b⟩
          try clear c_g1 f_g1 a_g1 d_g1 e_g1
          replace g1 := g1.below b; have c_g1 := g1.cell; have f_g1 := g1.free; have a_g1 := fun o => (g1.alloc o).cell; have d_g1 := fun o o2 => ((g1.alloc o).alloc o2).cell; have e_g1 := fun o => (g1.alloc o).free; replace B := B.trans (b.mono B.size); clear b
          go_wp2_with fail
          refine (G.out _ (H.out.below B)).mono ?_
          rintro e w2 ⟨rfl, rfl⟩
          go_wp2_with fail
          refine (CK.out _ (H.out.below B)).mono ?_
          rintro e wa3 ⟨rfl, b⟩
          try clear c_g1 f_g1 a_g1 d_g1 e_g1
          replace g1 := g1.below b; have c_g1 := g1.cell; have f_g1 := g1.free; have a_g1 := fun o => (g1.alloc o).cell; have d_g1 := fun o o2 => ((g1.alloc o).alloc o2).cell; have e_g1 := fun o => (g1.alloc o).free; replace B := B.trans (b.mono B.size); clear b
          go_wp2_with fail
          refine (RT.out _ (H.out.below B)).mono ?_
          rintro e wa4 ⟨rfl, b⟩
          try clear c_g1 f_g1 a_g1 d_g1 e_g1
          replace g1 := g1.below b; have c_g1 := g1.cell; have f_g1 := g1.free; have a_g1 := fun o => (g1.alloc o).cell; have d_g1 := fun o o2 => ((g1.alloc o).alloc o2).cell; have e_g1 := fun o => (g1.alloc o).free; replace B := B.trans (b.mono B.size); clear b
          go_wp2_with fail
          refine (AT.out _ (H.out.below B)).mono ?_
          rintro e wa5 ⟨xs, rfl, os, b⟩
          try clear c_g1 f_g1 a_g1 d_g1 e_g1
          replace g1 := g1.below b; have c_g1 := g1.cell; have f_g1 := g1.free; have a_g1 := fun o => (g1.alloc o).cell; have d_g1 := fun o o2 => ((g1.alloc o).alloc o2).cell; have e_g1 := fun o => (g1.alloc o).free; replace B := B.trans (b.mono B.size); clear b
          have qs : Slots wa5 xs S := os.rd
          clear os
          go_wp2_with fail
          refine (BU.out _ (H.out.below B)).mono ?_
          rintro e wa6 ⟨rfl, b⟩
          try clear c_g1 f_g1 a_g1 d_g1 e_g1
          replace g1 := g1.below b; have c_g1 := g1.cell; have f_g1 := g1.free; have a_g1 := fun o => (g1.alloc o).cell; have d_g1 := fun o o2 => ((g1.alloc o).alloc o2).cell; have e_g1 := fun o => (g1.alloc o).free; replace qs := qs.below b; replace B := B.trans (b.mono B.size); clear b
          go_wp2_with fail
          refine (DA.out _ (H.out.below B)).mono ?_
          rintro e wa7 ⟨y2, rfl, o2, b⟩
          try clear c_g1 f_g1 a_g1 d_g1 e_g1
          replace g1 := g1.below b; have c_g1 := g1.cell; have f_g1 := g1.free; have a_g1 := fun o => (g1.alloc o).cell; have d_g1 := fun o o2 => ((g1.alloc o).alloc o2).cell; have e_g1 := fun o => (g1.alloc o).free; replace qs := qs.below b; replace B := B.trans (b.mono B.size); clear b
          have q2 := o2.rd
          clear o2
          go_wp2_with fail
          refine (FA.out _ (H.out.below B)).mono ?_
          rintro e wa8 ⟨y1, rfl, o1, b⟩
          try clear c_g1 f_g1 a_g1 d_g1 e_g1
          replace g1 := g1.below b; have c_g1 := g1.cell; have f_g1 := g1.free; have a_g1 := fun o => (g1.alloc o).cell; have d_g1 := fun o o2 => ((g1.alloc o).alloc o2).cell; have e_g1 := fun o => (g1.alloc o).free; replace qs := qs.below b; replace q2 := q2.below b; replace B := B.trans (b.mono B.size); clear b
          have q1 := o1.rd
          clear o1
          go_wp2_with fail
          refine (SF.out _ _ _ (H.out.below B) q1 qs).mono ?_
          rintro e wa9 ⟨rfl, b⟩
          try clear c_g1 f_g1 a_g1 d_g1 e_g1
          replace g1 := g1.below b; have c_g1 := g1.cell; have f_g1 := g1.free; have a_g1 := fun o => (g1.alloc o).cell; have d_g1 := fun o o2 => ((g1.alloc o).alloc o2).cell; have e_g1 := fun o => (g1.alloc o).free; replace qs := qs.below b; replace q2 := q2.below b; replace q1 := q1.below b; replace B := B.trans (b.mono B.size); clear b
          have ls := Rd.len qs Try.underlying50
          rw [H16.out] at ls
          have ls16 : ∀ ty W, (Builtin.len_ #[50] ty #[xs]).run Try.prog W = .ok (.int .i64 16) W := ls
          have HB := Lib.hid (And.intro g1 (And.intro qs (And.intro q2 B)))
          have HBB := Lib.hid (Below.refl wa9.heap.size wa9)
          have hB1 := B.size
          clear ls qs q1 q2 g1 B c_g1 f_g1 a_g1 d_g1 e_g1
          go_wp2
          go_loopg [16] 16 (fun gg i wr => ∃ j : Nat, j ≤ 16 ∧ gg = 16 - j ∧ i = .int .i64 j ∧ Hid (Below wa9.heap.size wa9 wr))
          case atStart => exact ⟨0, by omega, by omega, rfl, HBB⟩
          case round =>
            obtain ⟨j, hj, rfl, rfl, hh⟩ := hrel
            clear HBB
            have B2 := hh.out
            clear hh
            have B := HB.out.2.2.2.trans (B2.mono hB1)
            have g1 := HB.out.1.below B2
            by_cases hlt : j < 16
            · obtain ⟨b, o, s, ia, m0, m1, m2, hsk⟩ := (HB.out.2.1.below B2).at_ (P := Try.prog) Try.underlying50 size_slot (k := j) (by rw [H16.out]; exact hlt)
              have hcase := busy_cases (j : Int) (k : Int) s a
              have c_1 := g1.cell
              have HR := Lib.hid B2
              have HNO := Lib.hid (fun (e1 : ((j : Int) != (k : Int)) = true) (e3 : (s.at_ == (a : Int)) = true) (hu : s.used = true) => HN.out j s (by rw [bne_iff_ne] at e1; omega) hsk.out hu (by rw [beq_iff_eq] at e3; exact e3))
              obtain ⟨gn, us, at9⟩ := s
              dsimp only at *
              clear hsk B2 B g1
              rcases hcase with e1 | ⟨e1, rfl⟩ | ⟨e1, rfl, e3⟩ | ⟨e1, rfl, e3⟩
              · go_wp2
                go_roundg (16 - (j + 1))
                case measure => omega
                case rel => exact ⟨j + 1, by omega, rfl, by go_num, HR⟩
              · go_wp2
                go_roundg (16 - (j + 1))
                case measure => omega
                case rel => exact ⟨j + 1, by omega, rfl, by go_num, HR⟩
              · go_wp2
                go_roundg (16 - (j + 1))
                case measure => omega
                case rel => exact ⟨j + 1, by omega, rfl, by go_num, HR⟩
              · exact (HNO.out e1 e3 rfl).elim
            · obtain rfl : j = 16 := by omega
              have q2 := Rd.below HB.out.2.2.1 B2
              have qs := HB.out.2.1.below B2
              clear B2
              have c_g1 := g1.cell
              go_wp2_with fail
              refine (SD.out _ _ _ (H.out.below B) q2 qs).mono ?_
              rintro e wa10 ⟨rfl, b⟩
              replace B := B.trans (b.mono B.size); clear b
              go_wp2
              go_ret
              exact ⟨rfl, B⟩
end Go.Proofs.Ytiiilaojllmmiaa
