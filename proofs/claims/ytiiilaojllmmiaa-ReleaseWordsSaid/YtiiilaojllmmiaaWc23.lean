/- The walk of the law ReleaseWords. -/
import Derived.Test.YtiiilaojllmmiaaMRu
set_option linter.unusedVariables false
set_option linter.unusedSimpArgs false
namespace Go.Proofs.Ytiiilaojllmmiaa
open Go.RowKit L02 L05 L13 L14 L15 L16 L18 L19 L20

set_option maxRecDepth 100000 in
set_option maxHeartbeats 16000000 in
theorem ReleaseWords_walk (v0 : Value) (l : List UInt64) (a0 b0 : Int) (w : World) (h0 : Words w v0 l) (_f1 : -9223372036854775808 ≤ a0 ∧ a0 ≤ 9223372036854775807) (_f2 : -9223372036854775808 ≤ b0 ∧ b0 ≤ 9223372036854775807) :
    Calls Try.prog 9 #[v0, .agg #[.int .i64 a0, .int .i64 b0]] w fun e w' => e = .returned (.bool true) ∧ Below w.heap.size w w' := by
  have B : Below w.heap.size w w := Below.refl _ _
  have H := Lib.hid h0; clear h0 _f1 _f2
  have AL := Lib.hid alive23_any
  have G := Lib.hid (fun w h => Great_any v0 l w h)
  obtain ⟨gr, hgr⟩ : ∃ g, g = decide (2100 < l.length) := ⟨_, rfl⟩
  have HGR := Lib.hid hgr
  rw [← hgr] at G
  clear hgr
  cases gr
  case true =>
    go_enter Try.func9, Try.ntmps9
    go_upto_region 1 with (fail)
    refine wp_gen (fun Wv => Bx Wv (w.heap.size) (24) (#[.int .i64 a0, .int .i64 b0]) ∧ Below w.heap.size w Wv) ⟨((Bx.at_ (by simp))), ((Below.refl _ w).alloc (by simp <;> omega) _)⟩ ?_
    rintro wa1 ⟨g1, b⟩
    replace B := B.trans (b.mono B.size); clear b
    have c_g1 := g1.cell; have f_g1 := g1.free; have a_g1 := fun o => (g1.alloc o).cell; have d_g1 := fun o o2 => ((g1.alloc o).alloc o2).cell; have e_g1 := fun o => (g1.alloc o).free
    go_wp2_with fail
    refine (AL.out _).mono ?_
    rintro e wa2 ⟨rfl, b⟩
    try clear c_g1 f_g1 a_g1 d_g1 e_g1
    replace g1 := g1.below b; have c_g1 := g1.cell; have f_g1 := g1.free; have a_g1 := fun o => (g1.alloc o).cell; have d_g1 := fun o o2 => ((g1.alloc o).alloc o2).cell; have e_g1 := fun o => (g1.alloc o).free; replace B := B.trans (b.mono B.size); clear b
    go_wp2_with fail
    refine (G.out _ (H.out.below B)).mono ?_
    rintro e w2 ⟨rfl, rfl⟩
    go_wp2
    go_ret
    exact ⟨rfl, B⟩
  case false =>
    have hln : l.length ≤ 1048576 := by have := HGR.out; simp at this; omega
    obtain ⟨c, hc⟩ : ∃ v, v = chk19 l := ⟨_, rfl⟩
    have CK := Lib.hid (fun w h => Check19_any v0 l c hc w h)
    by_cases h0 : c = 0
    case neg =>
      have n1 : (c != 0) = true := by rw [bne_iff_ne]; exact h0
      clear hc h0 hln
      go_enter Try.func9, Try.ntmps9
      go_upto_region 1 with (fail)
      refine wp_gen (fun Wv => Bx Wv (w.heap.size) (24) (#[.int .i64 a0, .int .i64 b0]) ∧ Below w.heap.size w Wv) ⟨((Bx.at_ (by simp))), ((Below.refl _ w).alloc (by simp <;> omega) _)⟩ ?_
      rintro wa1 ⟨g1, b⟩
      replace B := B.trans (b.mono B.size); clear b
      have c_g1 := g1.cell; have f_g1 := g1.free; have a_g1 := fun o => (g1.alloc o).cell; have d_g1 := fun o o2 => ((g1.alloc o).alloc o2).cell; have e_g1 := fun o => (g1.alloc o).free
      go_wp2_with fail
      refine (AL.out _).mono ?_
      rintro e wa2 ⟨rfl, b⟩
      try clear c_g1 f_g1 a_g1 d_g1 e_g1
      replace g1 := g1.below b; have c_g1 := g1.cell; have f_g1 := g1.free; have a_g1 := fun o => (g1.alloc o).cell; have d_g1 := fun o o2 => ((g1.alloc o).alloc o2).cell; have e_g1 := fun o => (g1.alloc o).free; replace B := B.trans (b.mono B.size); clear b
      go_wp2_with fail
      refine (G.out _ (H.out.below B)).mono ?_
      rintro e w2 ⟨rfl, rfl⟩
      go_wp2_with fail
      refine (CK.out _ (H.out.below B)).mono ?_
      rintro e wa3 ⟨rfl, b⟩
      try clear c_g1 f_g1 a_g1 d_g1 e_g1
      replace g1 := g1.below b; have c_g1 := g1.cell; have f_g1 := g1.free; have a_g1 := fun o => (g1.alloc o).cell; have d_g1 := fun o o2 => ((g1.alloc o).alloc o2).cell; have e_g1 := fun o => (g1.alloc o).free; replace B := B.trans (b.mono B.size); clear b
      go_wp2
      go_ret
      exact ⟨rfl, B⟩
    case pos =>
      subst h0
      have rt : Rt l := Rt.of hc.symm
      obtain ⟨n0, hn0⟩ : ∃ n, n = sumE l := ⟨_, rfl⟩
      have W0 := Lib.hid (fun w h => Words16_any v0 l n0 0 hn0 rt.al.symm w h)
      by_cases ha : askI l a0 b0 = 0
      case neg =>
        obtain ⟨p, hp⟩ : ∃ v, v = res l a0 b0 := ⟨_, rfl⟩
        obtain ⟨d, hd⟩ : ∃ v, v = resErr l a0 b0 := ⟨_, rfl⟩
        obtain ⟨fb, hfb⟩ : ∃ v, v = find l p := ⟨_, rfl⟩
        obtain ⟨fe, hfe⟩ : ∃ v, v = findErr l p := ⟨_, rfl⟩
        have RT := Lib.hid (fun w h => Resolve_any v0 l a0 b0 p d hp hd w h)
        have FT := Lib.hid (fun w h => Find_any v0 l p fb fe hfb hfe w h)
        obtain ⟨bat, bsz, bk1, bty, bmk, bnx⟩ := fb
        dsimp only at FT
        have n1 : (d != 0) = true := by rw [bne_iff_ne, hd]; rw [askI, if_pos hc.symm] at ha; exact ha
        clear hc ha hp hd hfb hfe hln rt hn0
        go_enter Try.func9, Try.ntmps9
        go_upto_region 1 with (fail)
        refine wp_gen (fun Wv => Bx Wv (w.heap.size) (24) (#[.int .i64 a0, .int .i64 b0]) ∧ Below w.heap.size w Wv) ⟨((Bx.at_ (by simp))), ((Below.refl _ w).alloc (by simp <;> omega) _)⟩ ?_
        rintro wa1 ⟨g1, b⟩
        replace B := B.trans (b.mono B.size); clear b
        have c_g1 := g1.cell; have f_g1 := g1.free; have a_g1 := fun o => (g1.alloc o).cell; have d_g1 := fun o o2 => ((g1.alloc o).alloc o2).cell; have e_g1 := fun o => (g1.alloc o).free
        go_wp2_with fail
        refine (AL.out _).mono ?_
        rintro e wa2 ⟨rfl, b⟩
        try clear c_g1 f_g1 a_g1 d_g1 e_g1
        replace g1 := g1.below b; have c_g1 := g1.cell; have f_g1 := g1.free; have a_g1 := fun o => (g1.alloc o).cell; have d_g1 := fun o o2 => ((g1.alloc o).alloc o2).cell; have e_g1 := fun o => (g1.alloc o).free; replace B := B.trans (b.mono B.size); clear b
        go_wp2_with fail
        refine (G.out _ (H.out.below B)).mono ?_
        rintro e w2 ⟨rfl, rfl⟩
        go_wp2_with fail
        refine (CK.out _ (H.out.below B)).mono ?_
        rintro e wa3 ⟨rfl, b⟩
        try clear c_g1 f_g1 a_g1 d_g1 e_g1
        replace g1 := g1.below b; have c_g1 := g1.cell; have f_g1 := g1.free; have a_g1 := fun o => (g1.alloc o).cell; have d_g1 := fun o o2 => ((g1.alloc o).alloc o2).cell; have e_g1 := fun o => (g1.alloc o).free; replace B := B.trans (b.mono B.size); clear b
        go_wp2_with fail
        refine (RT.out _ (H.out.below B)).mono ?_
        rintro e wa4 ⟨rfl, b⟩
        try clear c_g1 f_g1 a_g1 d_g1 e_g1
        replace g1 := g1.below b; have c_g1 := g1.cell; have f_g1 := g1.free; have a_g1 := fun o => (g1.alloc o).cell; have d_g1 := fun o o2 => ((g1.alloc o).alloc o2).cell; have e_g1 := fun o => (g1.alloc o).free; replace B := B.trans (b.mono B.size); clear b
        go_wp2_with fail
        refine (FT.out _ (H.out.below B)).mono ?_
        rintro e wa5 ⟨rfl, b⟩
        try clear c_g1 f_g1 a_g1 d_g1 e_g1
        replace g1 := g1.below b; have c_g1 := g1.cell; have f_g1 := g1.free; have a_g1 := fun o => (g1.alloc o).cell; have d_g1 := fun o o2 => ((g1.alloc o).alloc o2).cell; have e_g1 := fun o => (g1.alloc o).free; replace B := B.trans (b.mono B.size); clear b
        go_upto_region 6 with (fail)
        refine wp_gen (fun Wv => Bx Wv (wa5.heap.size) (74) (#[.int .i64 bat, .int .i64 bsz, .int .i64 bk1, .int .i64 bty, .bool bmk, .int .u64 bnx.toNat]) ∧ Below wa5.heap.size wa5 Wv) ⟨((Bx.at_ (by simp))), ((Below.refl _ wa5).alloc (by simp <;> omega) _)⟩ ?_
        rintro wa6 ⟨g2, b⟩
        try clear c_g1 f_g1 a_g1 d_g1 e_g1
        replace g1 := g1.below b; have c_g1 := g1.cell; have f_g1 := g1.free; have a_g1 := fun o => (g1.alloc o).cell; have d_g1 := fun o o2 => ((g1.alloc o).alloc o2).cell; have e_g1 := fun o => (g1.alloc o).free; replace B := B.trans (b.mono B.size); clear b
        have c_g2 := g2.cell; have f_g2 := g2.free; have a_g2 := fun o => (g2.alloc o).cell; have d_g2 := fun o o2 => ((g2.alloc o).alloc o2).cell; have e_g2 := fun o => (g2.alloc o).free
        go_wp2_with fail
        refine (W0.out _ (H.out.below B)).mono ?_
        rintro e wa7 ⟨x1, rfl, b⟩
        try clear c_g1 f_g1 a_g1 d_g1 e_g1
        replace g1 := g1.below b; have c_g1 := g1.cell; have f_g1 := g1.free; have a_g1 := fun o => (g1.alloc o).cell; have d_g1 := fun o o2 => ((g1.alloc o).alloc o2).cell; have e_g1 := fun o => (g1.alloc o).free; try clear c_g2 f_g2 a_g2 d_g2 e_g2
        replace g2 := g2.below b; have c_g2 := g2.cell; have f_g2 := g2.free; have a_g2 := fun o => (g2.alloc o).cell; have d_g2 := fun o o2 => ((g2.alloc o).alloc o2).cell; have e_g2 := fun o => (g2.alloc o).free; replace B := B.trans (b.mono B.size); clear b
        go_wp2
        go_ret
        exact ⟨rfl, B⟩
      case pos =>
        obtain ⟨k, a, nn, q0, bk, t0, rfl, hh⟩ := Hd.of ha
        obtain ⟨E1, h1⟩ : ∃ v, v = fiL l k b0 := ⟨_, rfl⟩
        obtain ⟨r1, h2⟩ : ∃ v, v = fiE l k b0 := ⟨_, rfl⟩
        obtain ⟨E2, h3⟩ : ∃ v, v = diL l k b0 := ⟨_, rfl⟩
        obtain ⟨hbL, hbk⟩ := objs_mem.1 (List.mem_of_getElem? hh.ho)
        have hfB : findB (allL l) (a : Int) = some bk := by
          obtain ⟨j, hj⟩ := List.getElem?_of_mem hbL
          refine findB_first hj hh.hat (fun i c hi hc' e => ?_)
          have hp2 := List.pairwise_iff_getElem.1 (all_pair rt.al) i j (List.getElem?_eq_some_iff.1 hc').1 (List.getElem?_eq_some_iff.1 hj).1 hi
          rw [(List.getElem?_eq_some_iff.1 hc').2, (List.getElem?_eq_some_iff.1 hj).2, e, hh.hat] at hp2
          have := all_size rt.al (List.mem_of_getElem? hc')
          omega
        have hfE : findErr l (a : Int) = 0 := by rw [findErr, if_pos rt.al, hfB]; rfl
        have hfb : find l (a : Int) = bk := by rw [find, if_pos hfE, hfB]; rfl
        have RT := Lib.hid (fun w h => Resolve_any v0 l k b0 (a : Int) 0 hh.hres.symm hh.hr.symm w h)
        have FT := Lib.hid (fun w h => Find_any v0 l (a : Int) bk 0 hfb.symm hfE.symm w h)
        have FA := Lib.hid (fun w h => Free23_any v0 l k b0 E1 r1 h1 h2 w h)
        have DA := Lib.hid (fun w h => Drop23_any v0 l k b0 E2 0 h3 ha.symm w h)
        obtain ⟨l1, hl1⟩ : ∃ v, v = made l E1 := ⟨_, rfl⟩
        obtain ⟨l2, hl2⟩ : ∃ v, v = made l E2 := ⟨_, rfl⟩
        have MF := Lib.hid (fun ev w h he => Made_any v0 ev l E1 hln w h he)
        have MD := Lib.hid (fun ev w h he => Made_any v0 ev l E2 hln w h he)
        rw [← hl1] at MF
        rw [← hl2] at MD
        obtain ⟨d1, d2, d3, d4, d5, d6, d7, d8⟩ := hh.drop
        have dw := hh.dropWords
        rw [← h3, ← hl2] at d3 dw
        rw [← hn0] at dw
        have W1 := Lib.hid (fun v w h => Words16_any v l2 n0 0 dw.symm d3.al.symm w h)
        have hsb : 2 ≤ bk.size ∧ bk.size ≤ 2000 ∧ 0 ≤ n0 ∧ n0 ≤ 2000000 := by
          have z1 := sum_bound (F := freeL l) (j := 960) (fun c hc => by
            obtain ⟨a, h1, h2, h3, h4, _⟩ := all_mem rt.al (free_mem.1 hc).1
            have := (stand_ok h3).bounds
            rw [← h4] at this
            omega) (Nat.le_trans (List.length_filter_le _ _) (all_len rt.al))
          obtain ⟨a', g1, g2, g3, g4, _⟩ := all_mem rt.al hbL
          have := (stand_ok g3).bounds
          rw [← g4] at this
          rw [hn0, sumE, if_pos rt.al]
          omega
        by_cases hf : r1 = 0
        case neg =>
          have hrc : r1 = 45 := by
            rw [h2, fiE, if_pos ha] at hf ⊢
            split
            · rfl
            · rename_i hx; rw [if_neg hx] at hf; exact absurd rfl hf
          subst hrc
          obtain ⟨bat, bsz, bk1, bty, bmk, bnx⟩ := bk
          dsimp only at FT
          clear hc ha h1 h2 h3 hh hbL hbk hfB hfE hfb hl1 hl2 d1 d2 d3 d4 d5 d6 d7 d8 dw hf hln rt hn0 hsb
          go_enter Try.func9, Try.ntmps9
          go_upto_region 1 with (fail)
          refine wp_gen (fun Wv => Bx Wv (w.heap.size) (24) (#[.int .i64 (k : Int), .int .i64 b0]) ∧ Below w.heap.size w Wv) ⟨((Bx.at_ (by simp))), ((Below.refl _ w).alloc (by simp <;> omega) _)⟩ ?_
          rintro wa1 ⟨g1, b⟩
          replace B := B.trans (b.mono B.size); clear b
          have c_g1 := g1.cell; have f_g1 := g1.free; have a_g1 := fun o => (g1.alloc o).cell; have d_g1 := fun o o2 => ((g1.alloc o).alloc o2).cell; have e_g1 := fun o => (g1.alloc o).free
          go_wp2_with fail
          refine (AL.out _).mono ?_
          rintro e wa2 ⟨rfl, b⟩
          try clear c_g1 f_g1 a_g1 d_g1 e_g1
          replace g1 := g1.below b; have c_g1 := g1.cell; have f_g1 := g1.free; have a_g1 := fun o => (g1.alloc o).cell; have d_g1 := fun o o2 => ((g1.alloc o).alloc o2).cell; have e_g1 := fun o => (g1.alloc o).free; replace B := B.trans (b.mono B.size); clear b
          go_wp2_with fail
          refine (G.out _ (H.out.below B)).mono ?_
          rintro e w2 ⟨rfl, rfl⟩
          go_wp2_with fail
          refine (CK.out _ (H.out.below B)).mono ?_
          rintro e wa3 ⟨rfl, b⟩
          try clear c_g1 f_g1 a_g1 d_g1 e_g1
          replace g1 := g1.below b; have c_g1 := g1.cell; have f_g1 := g1.free; have a_g1 := fun o => (g1.alloc o).cell; have d_g1 := fun o o2 => ((g1.alloc o).alloc o2).cell; have e_g1 := fun o => (g1.alloc o).free; replace B := B.trans (b.mono B.size); clear b
          go_wp2_with fail
          refine (RT.out _ (H.out.below B)).mono ?_
          rintro e wa4 ⟨rfl, b⟩
          try clear c_g1 f_g1 a_g1 d_g1 e_g1
          replace g1 := g1.below b; have c_g1 := g1.cell; have f_g1 := g1.free; have a_g1 := fun o => (g1.alloc o).cell; have d_g1 := fun o o2 => ((g1.alloc o).alloc o2).cell; have e_g1 := fun o => (g1.alloc o).free; replace B := B.trans (b.mono B.size); clear b
          go_wp2_with fail
          refine (FT.out _ (H.out.below B)).mono ?_
          rintro e wa5 ⟨rfl, b⟩
          try clear c_g1 f_g1 a_g1 d_g1 e_g1
          replace g1 := g1.below b; have c_g1 := g1.cell; have f_g1 := g1.free; have a_g1 := fun o => (g1.alloc o).cell; have d_g1 := fun o o2 => ((g1.alloc o).alloc o2).cell; have e_g1 := fun o => (g1.alloc o).free; replace B := B.trans (b.mono B.size); clear b
          go_upto_region 6 with (fail)
          refine wp_gen (fun Wv => Bx Wv (wa5.heap.size) (74) (#[.int .i64 bat, .int .i64 bsz, .int .i64 bk1, .int .i64 bty, .bool bmk, .int .u64 bnx.toNat]) ∧ Below wa5.heap.size wa5 Wv) ⟨((Bx.at_ (by simp))), ((Below.refl _ wa5).alloc (by simp <;> omega) _)⟩ ?_
          rintro wa6 ⟨g2, b⟩
          try clear c_g1 f_g1 a_g1 d_g1 e_g1
          replace g1 := g1.below b; have c_g1 := g1.cell; have f_g1 := g1.free; have a_g1 := fun o => (g1.alloc o).cell; have d_g1 := fun o o2 => ((g1.alloc o).alloc o2).cell; have e_g1 := fun o => (g1.alloc o).free; replace B := B.trans (b.mono B.size); clear b
          have c_g2 := g2.cell; have f_g2 := g2.free; have a_g2 := fun o => (g2.alloc o).cell; have d_g2 := fun o o2 => ((g2.alloc o).alloc o2).cell; have e_g2 := fun o => (g2.alloc o).free
          go_wp2_with fail
          refine (W0.out _ (H.out.below B)).mono ?_
          rintro e wa7 ⟨x1, rfl, b⟩
          try clear c_g1 f_g1 a_g1 d_g1 e_g1
          replace g1 := g1.below b; have c_g1 := g1.cell; have f_g1 := g1.free; have a_g1 := fun o => (g1.alloc o).cell; have d_g1 := fun o o2 => ((g1.alloc o).alloc o2).cell; have e_g1 := fun o => (g1.alloc o).free; try clear c_g2 f_g2 a_g2 d_g2 e_g2
          replace g2 := g2.below b; have c_g2 := g2.cell; have f_g2 := g2.free; have a_g2 := fun o => (g2.alloc o).cell; have d_g2 := fun o o2 => ((g2.alloc o).alloc o2).cell; have e_g2 := fun o => (g2.alloc o).free; replace B := B.trans (b.mono B.size); clear b
          go_wp2_with fail
          refine (DA.out _ (H.out.below B)).mono ?_
          rintro e wa8 ⟨y2, rfl, o2, b⟩
          try clear c_g1 f_g1 a_g1 d_g1 e_g1
          replace g1 := g1.below b; have c_g1 := g1.cell; have f_g1 := g1.free; have a_g1 := fun o => (g1.alloc o).cell; have d_g1 := fun o o2 => ((g1.alloc o).alloc o2).cell; have e_g1 := fun o => (g1.alloc o).free; try clear c_g2 f_g2 a_g2 d_g2 e_g2
          replace g2 := g2.below b; have c_g2 := g2.cell; have f_g2 := g2.free; have a_g2 := fun o => (g2.alloc o).cell; have d_g2 := fun o o2 => ((g2.alloc o).alloc o2).cell; have e_g2 := fun o => (g2.alloc o).free; replace B := B.trans (b.mono B.size); clear b
          have q2 := o2.rd
          clear o2
          go_wp2_with fail
          refine (MD.out _ _ (H.out.below B) q2).mono ?_
          rintro e wa9 ⟨z2, rfl, oz, b⟩
          try clear c_g1 f_g1 a_g1 d_g1 e_g1
          replace g1 := g1.below b; have c_g1 := g1.cell; have f_g1 := g1.free; have a_g1 := fun o => (g1.alloc o).cell; have d_g1 := fun o o2 => ((g1.alloc o).alloc o2).cell; have e_g1 := fun o => (g1.alloc o).free; try clear c_g2 f_g2 a_g2 d_g2 e_g2
          replace g2 := g2.below b; have c_g2 := g2.cell; have f_g2 := g2.free; have a_g2 := fun o => (g2.alloc o).cell; have d_g2 := fun o o2 => ((g2.alloc o).alloc o2).cell; have e_g2 := fun o => (g2.alloc o).free; replace q2 := q2.below b; replace B := B.trans (b.mono B.size); clear b
          have rz := oz.rd
          clear oz
          go_wp2_with fail
          refine (W1.out _ _ rz).mono ?_
          rintro e wa10 ⟨x2, rfl, b⟩
          try clear c_g1 f_g1 a_g1 d_g1 e_g1
          replace g1 := g1.below b; have c_g1 := g1.cell; have f_g1 := g1.free; have a_g1 := fun o => (g1.alloc o).cell; have d_g1 := fun o o2 => ((g1.alloc o).alloc o2).cell; have e_g1 := fun o => (g1.alloc o).free; try clear c_g2 f_g2 a_g2 d_g2 e_g2
          replace g2 := g2.below b; have c_g2 := g2.cell; have f_g2 := g2.free; have a_g2 := fun o => (g2.alloc o).cell; have d_g2 := fun o o2 => ((g2.alloc o).alloc o2).cell; have e_g2 := fun o => (g2.alloc o).free; replace rz := rz.below b; replace B := B.trans (b.mono B.size); clear b
          go_wp2_with fail
          refine (FA.out _ (H.out.below B)).mono ?_
          rintro e wa11 ⟨y1, rfl, o1, b⟩
          try clear c_g1 f_g1 a_g1 d_g1 e_g1
          replace g1 := g1.below b; have c_g1 := g1.cell; have f_g1 := g1.free; have a_g1 := fun o => (g1.alloc o).cell; have d_g1 := fun o o2 => ((g1.alloc o).alloc o2).cell; have e_g1 := fun o => (g1.alloc o).free; try clear c_g2 f_g2 a_g2 d_g2 e_g2
          replace g2 := g2.below b; have c_g2 := g2.cell; have f_g2 := g2.free; have a_g2 := fun o => (g2.alloc o).cell; have d_g2 := fun o o2 => ((g2.alloc o).alloc o2).cell; have e_g2 := fun o => (g2.alloc o).free; replace rz := rz.below b; replace B := B.trans (b.mono B.size); clear b
          have q1 := o1.rd
          clear o1
          go_wp2
          go_ret
          exact ⟨rfl, B⟩
        case pos =>
          subst hf
          obtain ⟨fw1, fw2⟩ := hh.freeWords h2.symm
          obtain ⟨i, mm, p, f1, f2, f3, f4, f5, f6, f7, f8, f9, f10, _⟩ := hh.free h2.symm
          rw [← h1, ← hl1] at fw1 fw2 f10
          rw [← hn0] at fw1
          obtain ⟨L, hL⟩ : ∃ L, L = allL l1 := ⟨_, rfl⟩
          have W2 := Lib.hid (fun v w h => Words16_any v l1 (n0 + bk.size) 0 fw1.symm f10.al.symm w h)
          have AW := Lib.hid (fun v w h => AllW_any v l1 L 0 hL f10.al.symm w h)
          have HNO := Lib.hid fw2
          rw [← hL] at HNO
          obtain ⟨N, hN⟩ : ∃ N, N = L.length := ⟨_, rfl⟩
          have hN9 : N ≤ 960 := by rw [hN, hL]; exact all_len f10.al
          have HN := Lib.hid hN
          have ww : IntKind.i64.wrap (n0 + bk.size) = n0 + bk.size := IntWalk.i64_in _ (by omega)
          obtain ⟨bat, bsz, bk1, bty, bmk, bnx⟩ := bk
          dsimp only at FT W2 ww
          clear hc ha h1 h2 h3 hh hbL hbk hfB hfE hfb hl1 hl2 d1 d2 d3 d4 d5 d6 d7 d8 dw hln rt hn0 hsb fw1 fw2 f1 f2 f3 f4 f5 f6 f7 f8 f9 f10 hL hN
          go_enter Try.func9, Try.ntmps9
          go_upto_region 1 with (fail)
          refine wp_gen (fun Wv => Bx Wv (w.heap.size) (24) (#[.int .i64 (k : Int), .int .i64 b0]) ∧ Below w.heap.size w Wv) ⟨((Bx.at_ (by simp))), ((Below.refl _ w).alloc (by simp <;> omega) _)⟩ ?_
          rintro wa1 ⟨g1, b⟩
          replace B := B.trans (b.mono B.size); clear b
          have c_g1 := g1.cell; have f_g1 := g1.free; have a_g1 := fun o => (g1.alloc o).cell; have d_g1 := fun o o2 => ((g1.alloc o).alloc o2).cell; have e_g1 := fun o => (g1.alloc o).free
          go_wp2_with fail
          refine (AL.out _).mono ?_
          rintro e wa2 ⟨rfl, b⟩
          try clear c_g1 f_g1 a_g1 d_g1 e_g1
          replace g1 := g1.below b; have c_g1 := g1.cell; have f_g1 := g1.free; have a_g1 := fun o => (g1.alloc o).cell; have d_g1 := fun o o2 => ((g1.alloc o).alloc o2).cell; have e_g1 := fun o => (g1.alloc o).free; replace B := B.trans (b.mono B.size); clear b
          go_wp2_with fail
          refine (G.out _ (H.out.below B)).mono ?_
          rintro e w2 ⟨rfl, rfl⟩
          go_wp2_with fail
          refine (CK.out _ (H.out.below B)).mono ?_
          rintro e wa3 ⟨rfl, b⟩
          try clear c_g1 f_g1 a_g1 d_g1 e_g1
          replace g1 := g1.below b; have c_g1 := g1.cell; have f_g1 := g1.free; have a_g1 := fun o => (g1.alloc o).cell; have d_g1 := fun o o2 => ((g1.alloc o).alloc o2).cell; have e_g1 := fun o => (g1.alloc o).free; replace B := B.trans (b.mono B.size); clear b
          go_wp2_with fail
          refine (RT.out _ (H.out.below B)).mono ?_
          rintro e wa4 ⟨rfl, b⟩
          try clear c_g1 f_g1 a_g1 d_g1 e_g1
          replace g1 := g1.below b; have c_g1 := g1.cell; have f_g1 := g1.free; have a_g1 := fun o => (g1.alloc o).cell; have d_g1 := fun o o2 => ((g1.alloc o).alloc o2).cell; have e_g1 := fun o => (g1.alloc o).free; replace B := B.trans (b.mono B.size); clear b
          go_wp2_with fail
          refine (FT.out _ (H.out.below B)).mono ?_
          rintro e wa5 ⟨rfl, b⟩
          try clear c_g1 f_g1 a_g1 d_g1 e_g1
          replace g1 := g1.below b; have c_g1 := g1.cell; have f_g1 := g1.free; have a_g1 := fun o => (g1.alloc o).cell; have d_g1 := fun o o2 => ((g1.alloc o).alloc o2).cell; have e_g1 := fun o => (g1.alloc o).free; replace B := B.trans (b.mono B.size); clear b
          go_upto_region 6 with (fail)
          refine wp_gen (fun Wv => Bx Wv (wa5.heap.size) (74) (#[.int .i64 bat, .int .i64 bsz, .int .i64 bk1, .int .i64 bty, .bool bmk, .int .u64 bnx.toNat]) ∧ Below wa5.heap.size wa5 Wv) ⟨((Bx.at_ (by simp))), ((Below.refl _ wa5).alloc (by simp <;> omega) _)⟩ ?_
          rintro wa6 ⟨g2, b⟩
          try clear c_g1 f_g1 a_g1 d_g1 e_g1
          replace g1 := g1.below b; have c_g1 := g1.cell; have f_g1 := g1.free; have a_g1 := fun o => (g1.alloc o).cell; have d_g1 := fun o o2 => ((g1.alloc o).alloc o2).cell; have e_g1 := fun o => (g1.alloc o).free; replace B := B.trans (b.mono B.size); clear b
          have c_g2 := g2.cell; have f_g2 := g2.free; have a_g2 := fun o => (g2.alloc o).cell; have d_g2 := fun o o2 => ((g2.alloc o).alloc o2).cell; have e_g2 := fun o => (g2.alloc o).free
          go_wp2_with fail
          refine (W0.out _ (H.out.below B)).mono ?_
          rintro e wa7 ⟨x1, rfl, b⟩
          try clear c_g1 f_g1 a_g1 d_g1 e_g1
          replace g1 := g1.below b; have c_g1 := g1.cell; have f_g1 := g1.free; have a_g1 := fun o => (g1.alloc o).cell; have d_g1 := fun o o2 => ((g1.alloc o).alloc o2).cell; have e_g1 := fun o => (g1.alloc o).free; try clear c_g2 f_g2 a_g2 d_g2 e_g2
          replace g2 := g2.below b; have c_g2 := g2.cell; have f_g2 := g2.free; have a_g2 := fun o => (g2.alloc o).cell; have d_g2 := fun o o2 => ((g2.alloc o).alloc o2).cell; have e_g2 := fun o => (g2.alloc o).free; replace B := B.trans (b.mono B.size); clear b
          go_wp2_with fail
          refine (DA.out _ (H.out.below B)).mono ?_
          rintro e wa8 ⟨y2, rfl, o2, b⟩
          try clear c_g1 f_g1 a_g1 d_g1 e_g1
          replace g1 := g1.below b; have c_g1 := g1.cell; have f_g1 := g1.free; have a_g1 := fun o => (g1.alloc o).cell; have d_g1 := fun o o2 => ((g1.alloc o).alloc o2).cell; have e_g1 := fun o => (g1.alloc o).free; try clear c_g2 f_g2 a_g2 d_g2 e_g2
          replace g2 := g2.below b; have c_g2 := g2.cell; have f_g2 := g2.free; have a_g2 := fun o => (g2.alloc o).cell; have d_g2 := fun o o2 => ((g2.alloc o).alloc o2).cell; have e_g2 := fun o => (g2.alloc o).free; replace B := B.trans (b.mono B.size); clear b
          have q2 := o2.rd
          clear o2
          go_wp2_with fail
          refine (MD.out _ _ (H.out.below B) q2).mono ?_
          rintro e wa9 ⟨z2, rfl, oz, b⟩
          try clear c_g1 f_g1 a_g1 d_g1 e_g1
          replace g1 := g1.below b; have c_g1 := g1.cell; have f_g1 := g1.free; have a_g1 := fun o => (g1.alloc o).cell; have d_g1 := fun o o2 => ((g1.alloc o).alloc o2).cell; have e_g1 := fun o => (g1.alloc o).free; try clear c_g2 f_g2 a_g2 d_g2 e_g2
          replace g2 := g2.below b; have c_g2 := g2.cell; have f_g2 := g2.free; have a_g2 := fun o => (g2.alloc o).cell; have d_g2 := fun o o2 => ((g2.alloc o).alloc o2).cell; have e_g2 := fun o => (g2.alloc o).free; replace q2 := q2.below b; replace B := B.trans (b.mono B.size); clear b
          have rz := oz.rd
          clear oz
          go_wp2_with fail
          refine (W1.out _ _ rz).mono ?_
          rintro e wa10 ⟨x2, rfl, b⟩
          try clear c_g1 f_g1 a_g1 d_g1 e_g1
          replace g1 := g1.below b; have c_g1 := g1.cell; have f_g1 := g1.free; have a_g1 := fun o => (g1.alloc o).cell; have d_g1 := fun o o2 => ((g1.alloc o).alloc o2).cell; have e_g1 := fun o => (g1.alloc o).free; try clear c_g2 f_g2 a_g2 d_g2 e_g2
          replace g2 := g2.below b; have c_g2 := g2.cell; have f_g2 := g2.free; have a_g2 := fun o => (g2.alloc o).cell; have d_g2 := fun o o2 => ((g2.alloc o).alloc o2).cell; have e_g2 := fun o => (g2.alloc o).free; replace rz := rz.below b; replace B := B.trans (b.mono B.size); clear b
          go_wp2_with fail
          refine (FA.out _ (H.out.below B)).mono ?_
          rintro e wa11 ⟨y1, rfl, o1, b⟩
          try clear c_g1 f_g1 a_g1 d_g1 e_g1
          replace g1 := g1.below b; have c_g1 := g1.cell; have f_g1 := g1.free; have a_g1 := fun o => (g1.alloc o).cell; have d_g1 := fun o o2 => ((g1.alloc o).alloc o2).cell; have e_g1 := fun o => (g1.alloc o).free; try clear c_g2 f_g2 a_g2 d_g2 e_g2
          replace g2 := g2.below b; have c_g2 := g2.cell; have f_g2 := g2.free; have a_g2 := fun o => (g2.alloc o).cell; have d_g2 := fun o o2 => ((g2.alloc o).alloc o2).cell; have e_g2 := fun o => (g2.alloc o).free; replace rz := rz.below b; replace B := B.trans (b.mono B.size); clear b
          have q1 := o1.rd
          clear o1
          go_wp2_with fail
          refine (MF.out _ _ (H.out.below B) q1).mono ?_
          rintro e wa12 ⟨z1, rfl, oy, b⟩
          try clear c_g1 f_g1 a_g1 d_g1 e_g1
          replace g1 := g1.below b; have c_g1 := g1.cell; have f_g1 := g1.free; have a_g1 := fun o => (g1.alloc o).cell; have d_g1 := fun o o2 => ((g1.alloc o).alloc o2).cell; have e_g1 := fun o => (g1.alloc o).free; try clear c_g2 f_g2 a_g2 d_g2 e_g2
          replace g2 := g2.below b; have c_g2 := g2.cell; have f_g2 := g2.free; have a_g2 := fun o => (g2.alloc o).cell; have d_g2 := fun o o2 => ((g2.alloc o).alloc o2).cell; have e_g2 := fun o => (g2.alloc o).free; replace q1 := q1.below b; replace B := B.trans (b.mono B.size); clear b
          have ry := oy.rd
          clear oy
          go_wp2_with fail
          refine (W2.out _ _ ry).mono ?_
          rintro e wa13 ⟨x3, rfl, b⟩
          try clear c_g1 f_g1 a_g1 d_g1 e_g1
          replace g1 := g1.below b; have c_g1 := g1.cell; have f_g1 := g1.free; have a_g1 := fun o => (g1.alloc o).cell; have d_g1 := fun o o2 => ((g1.alloc o).alloc o2).cell; have e_g1 := fun o => (g1.alloc o).free; try clear c_g2 f_g2 a_g2 d_g2 e_g2
          replace g2 := g2.below b; have c_g2 := g2.cell; have f_g2 := g2.free; have a_g2 := fun o => (g2.alloc o).cell; have d_g2 := fun o o2 => ((g2.alloc o).alloc o2).cell; have e_g2 := fun o => (g2.alloc o).free; replace ry := ry.below b; replace B := B.trans (b.mono B.size); clear b
          go_wp2_with fail
          refine (AW.out _ _ ry).mono ?_
          rintro e wa14 ⟨xl, rfl, ol, b⟩
          try clear c_g1 f_g1 a_g1 d_g1 e_g1
          replace g1 := g1.below b; have c_g1 := g1.cell; have f_g1 := g1.free; have a_g1 := fun o => (g1.alloc o).cell; have d_g1 := fun o o2 => ((g1.alloc o).alloc o2).cell; have e_g1 := fun o => (g1.alloc o).free; try clear c_g2 f_g2 a_g2 d_g2 e_g2
          replace g2 := g2.below b; have c_g2 := g2.cell; have f_g2 := g2.free; have a_g2 := fun o => (g2.alloc o).cell; have d_g2 := fun o o2 => ((g2.alloc o).alloc o2).cell; have e_g2 := fun o => (g2.alloc o).free; replace ry := ry.below b; replace B := B.trans (b.mono B.size); clear b
          have hbl : Blks wa14 xl L := ol.rd
          have lx := hbl.len
          rw [← HN.out] at lx
          have HB := Lib.hid (And.intro hbl (And.intro g2 B))
          have HBB := Lib.hid (Below.refl wa14.heap.size wa14)
          have hB1 := B.size
          clear ol hbl ry g1 g2 B c_g1 f_g1 a_g1 d_g1 e_g1 c_g2 f_g2 a_g2 d_g2 e_g2
          go_wp2
          go_loopg [26] N (fun gg i wr => ∃ j : Nat, j ≤ N ∧ gg = N - j ∧ i = .int .i64 j ∧ Hid (Below wa14.heap.size wa14 wr))
          case atStart => exact ⟨0, by omega, by omega, rfl, HBB⟩
          case round =>
            obtain ⟨j, hj, rfl, rfl, hh⟩ := hrel
            clear HBB
            have B2 := hh.out
            clear hh
            by_cases hlt : j < N
            · obtain ⟨bb, oo, c, ia, m0, m1, m2, m3, m4, m5, hc, _⟩ := (Blks.below HB.out.1 B2).at_ (k := j) (by rw [← HN.out]; exact hlt)
              have HC := Lib.hid (HNO.out c (List.mem_of_getElem? hc.out))
              have HR := Lib.hid B2
              clear hc B2
              by_cases hk : c.kind = 1
              · have k1 : (c.kind == 1) = true := by rw [beq_iff_eq]; exact hk
                have k2 : (c.at_ == (a : Int)) = false := by rw [beq_eq_false_iff_ne]; exact fun e => HC.out ⟨hk, e⟩
                clear hk
                go_wp2
                go_roundg (N - (j + 1))
                case measure => omega
                case rel => exact ⟨j + 1, by omega, rfl, by go_num, HR⟩
              · have k1 : (c.kind == 1) = false := by rw [beq_eq_false_iff_ne]; exact hk
                clear hk
                go_wp2
                go_roundg (N - (j + 1))
                case measure => omega
                case rel => exact ⟨j + 1, by omega, rfl, by go_num, HR⟩
            · obtain rfl : j = N := by omega
              have B := HB.out.2.2.trans (B2.mono hB1)
              have g2 := HB.out.2.1.below B2
              have c_2 := g2.cell
              clear B2
              go_wp2
              go_ret
              exact ⟨rfl, B⟩
end Go.Proofs.Ytiiilaojllmmiaa
