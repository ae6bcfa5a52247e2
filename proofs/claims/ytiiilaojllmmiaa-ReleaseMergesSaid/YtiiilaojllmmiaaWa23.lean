/- The walk of the law ReleaseMerges. -/
import Derived.Test.YtiiilaojllmmiaaMRu
import Derived.Test.YtiiilaojllmmiaaMRx
set_option linter.unusedVariables false
set_option linter.unusedSimpArgs false
namespace Go.Proofs.Ytiiilaojllmmiaa
open Go.RowKit L02 L05 L13 L14 L18 L19 L20

set_option maxRecDepth 100000 in
set_option maxHeartbeats 16000000 in
theorem ReleaseMerges_walk (v0 : Value) (l : List UInt64) (a0 b0 : Int) (w : World) (h0 : Words w v0 l) (_f1 : -9223372036854775808 ≤ a0 ∧ a0 ≤ 9223372036854775807) (_f2 : -9223372036854775808 ≤ b0 ∧ b0 ≤ 9223372036854775807) :
    Calls Try.prog 11 #[v0, .agg #[.int .i64 a0, .int .i64 b0]] w fun e w' => e = .returned (.bool true) ∧ Below w.heap.size w w' := by
  have B : Below w.heap.size w w := Below.refl _ _
  have H := Lib.hid h0; clear h0 _f1 _f2
  have AL := Lib.hid alive23_any
  have G := Lib.hid (fun w h => Great_any v0 l w h)
  obtain ⟨gr, hgr⟩ : ∃ g, g = decide (2100 < l.length) := ⟨_, rfl⟩
  have HGR := Lib.hid hgr
  rw [← hgr] at G
  clear hgr
  cases gr
  case true =>
    go_enter Try.func11, Try.ntmps11
    go_upto_region 1 with (fail)
    refine wp_gen (fun Wv => Bx Wv (w.heap.size) (24) (#[.int .i64 a0, .int .i64 b0]) ∧ Below w.heap.size w Wv) ⟨((Bx.at_ (by simp))), ((Below.refl _ w).alloc (by simp <;> omega) _)⟩ ?_
    rintro wa1 ⟨g1, b⟩
    replace B := B.trans (b.mono B.size); clear b
    have c_g1 := g1.cell; have f_g1 := g1.free; have a_g1 := fun o => (g1.alloc o).cell; have d_g1 := fun o o2 => ((g1.alloc o).alloc o2).cell; have e_g1 := fun o => (g1.alloc o).free
    go_wp2_with fail
    refine (AL.out _).mono ?_
    rintro e wa2 ⟨rfl, b⟩
    try clear c_g1 f_g1 a_g1 d_g1 e_g1
    replace g1 := g1.below b; have c_g1 := g1.cell; have f_g1 := g1.free; have a_g1 := fun o => (g1.alloc o).cell; have d_g1 := fun o o2 => ((g1.alloc o).alloc o2).cell; have e_g1 := fun o => (g1.alloc o).free; replace B := B.trans (b.mono B.size); clear b
    go_wp2_with fail
    refine (G.out _ (H.out.below B)).mono ?_
    rintro e w2 ⟨rfl, rfl⟩
    go_wp2
    go_ret
    exact ⟨rfl, B⟩
  case false =>
    have hln : l.length ≤ 1048576 := by have := HGR.out; simp at this; omega
    obtain ⟨c, hc⟩ : ∃ v, v = chk19 l := ⟨_, rfl⟩
    have CK := Lib.hid (fun w h => Check19_any v0 l c hc w h)
    by_cases h0 : c = 0
    case neg =>
      have n1 : (c != 0) = true := by rw [bne_iff_ne]; exact h0
      clear hc h0 hln
      go_enter Try.func11, Try.ntmps11
      go_upto_region 1 with (fail)
      refine wp_gen (fun Wv => Bx Wv (w.heap.size) (24) (#[.int .i64 a0, .int .i64 b0]) ∧ Below w.heap.size w Wv) ⟨((Bx.at_ (by simp))), ((Below.refl _ w).alloc (by simp <;> omega) _)⟩ ?_
      rintro wa1 ⟨g1, b⟩
      replace B := B.trans (b.mono B.size); clear b
      have c_g1 := g1.cell; have f_g1 := g1.free; have a_g1 := fun o => (g1.alloc o).cell; have d_g1 := fun o o2 => ((g1.alloc o).alloc o2).cell; have e_g1 := fun o => (g1.alloc o).free
      go_wp2_with fail
      refine (AL.out _).mono ?_
      rintro e wa2 ⟨rfl, b⟩
      try clear c_g1 f_g1 a_g1 d_g1 e_g1
      replace g1 := g1.below b; have c_g1 := g1.cell; have f_g1 := g1.free; have a_g1 := fun o => (g1.alloc o).cell; have d_g1 := fun o o2 => ((g1.alloc o).alloc o2).cell; have e_g1 := fun o => (g1.alloc o).free; replace B := B.trans (b.mono B.size); clear b
      go_wp2_with fail
      refine (G.out _ (H.out.below B)).mono ?_
      rintro e w2 ⟨rfl, rfl⟩
      go_wp2_with fail
      refine (CK.out _ (H.out.below B)).mono ?_
      rintro e wa3 ⟨rfl, b⟩
      try clear c_g1 f_g1 a_g1 d_g1 e_g1
      replace g1 := g1.below b; have c_g1 := g1.cell; have f_g1 := g1.free; have a_g1 := fun o => (g1.alloc o).cell; have d_g1 := fun o o2 => ((g1.alloc o).alloc o2).cell; have e_g1 := fun o => (g1.alloc o).free; replace B := B.trans (b.mono B.size); clear b
      go_wp2
      go_ret
      exact ⟨rfl, B⟩
    case pos =>
      subst h0
      have rt : Rt l := Rt.of hc.symm
      obtain ⟨m, hm⟩ : ∃ m, m = L19.seen l := ⟨_, rfl⟩
      have OM := Lib.hid (fun w h => OfM_any v0 l m 0 (by rw [hm, ofM, if_pos rt.chk]) hc w h)
      obtain ⟨E1, h1⟩ : ∃ v, v = fiL l a0 b0 := ⟨_, rfl⟩
      obtain ⟨r1, h2⟩ : ∃ v, v = fiE l a0 b0 := ⟨_, rfl⟩
      obtain ⟨E2, h3⟩ : ∃ v, v = diL l a0 b0 := ⟨_, rfl⟩
      obtain ⟨r2, h4⟩ : ∃ v, v = askI l a0 b0 := ⟨_, rfl⟩
      obtain ⟨M1, hM1⟩ : ∃ M, M = freeM m a0 b0 := ⟨_, rfl⟩
      obtain ⟨M2, hM2⟩ : ∃ M, M = dropM m a0 b0 := ⟨_, rfl⟩
      have FA := Lib.hid (fun w h => Free23_any v0 l a0 b0 E1 r1 h1 h2 w h)
      have FM := Lib.hid (fun t o s w h => Free20_any t o s m a0 b0 M1 r1 hM1 (by rw [hm, freeE_seen rt]; exact h2) w h)
      have DA := Lib.hid (fun w h => Drop23_any v0 l a0 b0 E2 r2 h3 h4 w h)
      have DM := Lib.hid (fun t o s w h => Drop20_any t o s m a0 b0 M2 r2 hM2 (by rw [hm, asked_seen rt]; exact h4) w h)
      obtain ⟨l1, hl1⟩ : ∃ v, v = made l E1 := ⟨_, rfl⟩
      obtain ⟨l2, hl2⟩ : ∃ v, v = made l E2 := ⟨_, rfl⟩
      have MF := Lib.hid (fun ev w h he => Made_any v0 ev l E1 hln w h he)
      have MD := Lib.hid (fun ev w h he => Made_any v0 ev l E2 hln w h he)
      rw [← hl1] at MF
      rw [← hl2] at MD
      have hcase : (r1 ≠ 0 ∧ r2 ≠ 0) ∨ (r1 ≠ 0 ∧ r2 = 0 ∧ Rt l2 ∧ M2 = L19.seen l2 ∧ E2.length = 1) ∨ (r1 = 0 ∧ r2 = 0 ∧ Rt l2 ∧ M2 = L19.seen l2 ∧ E2.length = 1 ∧ Rt l1 ∧ M1 = L19.seen l1 ∧ E1.length = 2) := by
        by_cases ha : askI l a0 b0 = 0
        · obtain ⟨k, a, nn, q0, bk, t0, rfl, hh⟩ := Hd.of ha
          obtain ⟨d1, d2, d3, d4, _⟩ := hh.drop
          rw [← h3, ← hl2] at d3 d4
          rw [← h3] at d1
          have hd : r2 = 0 ∧ Rt l2 ∧ M2 = L19.seen l2 ∧ E2.length = 1 := ⟨by rw [h4]; exact ha, d3, by rw [hM2, hm, d4], by rw [d1]; rfl⟩
          by_cases hf : fiE l k b0 = 0
          · obtain ⟨i, mm, p, f1, f2, f3, f4, f5, f6, f7, f8, f9, f10, f11, _⟩ := hh.free hf
            rw [← h1, ← hl1] at f10 f11
            rw [← h1] at f8
            exact .inr (.inr ⟨by rw [h2]; exact hf, hd.1, hd.2.1, hd.2.2.1, hd.2.2.2, f10, by rw [hM1, hm, f11], by rw [f8]; rfl⟩)
          · exact .inr (.inl ⟨by rw [h2]; exact hf, hd⟩)
        · refine .inl ⟨?_, by rw [h4]; exact ha⟩
          rw [h2, fiE, if_neg ha]; exact ha
      clear hc hm h1 h2 h3 h4 hM1 hM2 hl1 hl2 rt hln
      rcases hcase with ⟨c1, c2⟩ | ⟨c1, c2, c3, c4, c5⟩ | ⟨c1, c2, c3, c4, c5, c6, c7, c8⟩
      · have n1 : (r1 == 0) = false := by rw [beq_eq_false_iff_ne]; exact c1
        have n2 : (r2 == 0) = false := by rw [beq_eq_false_iff_ne]; exact c2
        clear c1 c2
        go_enter Try.func11, Try.ntmps11
        go_upto_region 1 with (fail)
        refine wp_gen (fun Wv => Bx Wv (w.heap.size) (24) (#[.int .i64 a0, .int .i64 b0]) ∧ Below w.heap.size w Wv) ⟨((Bx.at_ (by simp))), ((Below.refl _ w).alloc (by simp <;> omega) _)⟩ ?_
        rintro wa1 ⟨g1, b⟩
        replace B := B.trans (b.mono B.size); clear b
        have c_g1 := g1.cell; have f_g1 := g1.free; have a_g1 := fun o => (g1.alloc o).cell; have d_g1 := fun o o2 => ((g1.alloc o).alloc o2).cell; have e_g1 := fun o => (g1.alloc o).free
        go_wp2_with fail
        refine (AL.out _).mono ?_
        rintro e wa2 ⟨rfl, b⟩
        try clear c_g1 f_g1 a_g1 d_g1 e_g1
        replace g1 := g1.below b; have c_g1 := g1.cell; have f_g1 := g1.free; have a_g1 := fun o => (g1.alloc o).cell; have d_g1 := fun o o2 => ((g1.alloc o).alloc o2).cell; have e_g1 := fun o => (g1.alloc o).free; replace B := B.trans (b.mono B.size); clear b
        go_wp2_with fail
        refine (G.out _ (H.out.below B)).mono ?_
        rintro e w2 ⟨rfl, rfl⟩
        go_wp2_with fail
        refine (CK.out _ (H.out.below B)).mono ?_
        rintro e wa3 ⟨rfl, b⟩
        try clear c_g1 f_g1 a_g1 d_g1 e_g1
        replace g1 := g1.below b; have c_g1 := g1.cell; have f_g1 := g1.free; have a_g1 := fun o => (g1.alloc o).cell; have d_g1 := fun o o2 => ((g1.alloc o).alloc o2).cell; have e_g1 := fun o => (g1.alloc o).free; replace B := B.trans (b.mono B.size); clear b
        go_wp2_with fail
        refine (OM.out _ (H.out.below B)).mono ?_
        rintro e wa4 ⟨ta, oa, sa, rfl, om, b⟩
        try clear c_g1 f_g1 a_g1 d_g1 e_g1
        replace g1 := g1.below b; have c_g1 := g1.cell; have f_g1 := g1.free; have a_g1 := fun o => (g1.alloc o).cell; have d_g1 := fun o o2 => ((g1.alloc o).alloc o2).cell; have e_g1 := fun o => (g1.alloc o).free; replace B := B.trans (b.mono B.size); clear b
        have rm := om.rd
        obtain ⟨⟨tA, tn, tc, rfl⟩, ⟨oA, on, oc, rfl⟩, ⟨sA, sn, sc, rfl⟩⟩ := om.rd.forms2
        clear om
        go_upto_region 5 with (fail)
        refine wp_gen (fun Wv => Bx Wv (wa4.heap.size) (87) (#[.slice tA tn tc, .slice oA on oc, .slice sA sn sc]) ∧ Below wa4.heap.size wa4 Wv) ⟨((Bx.at_ (by simp))), ((Below.refl _ wa4).alloc (by simp <;> omega) _)⟩ ?_
        rintro wa5 ⟨g3, b⟩
        try clear c_g1 f_g1 a_g1 d_g1 e_g1
        replace g1 := g1.below b; have c_g1 := g1.cell; have f_g1 := g1.free; have a_g1 := fun o => (g1.alloc o).cell; have d_g1 := fun o o2 => ((g1.alloc o).alloc o2).cell; have e_g1 := fun o => (g1.alloc o).free; replace rm := rm.below b; replace B := B.trans (b.mono B.size); clear b
        have c_g3 := g3.cell; have f_g3 := g3.free; have a_g3 := fun o => (g3.alloc o).cell; have d_g3 := fun o o2 => ((g3.alloc o).alloc o2).cell; have e_g3 := fun o => (g3.alloc o).free
        go_wp2_with fail
        refine (FA.out _ (H.out.below B)).mono ?_
        rintro e wa6 ⟨y1, rfl, o1, b⟩
        try clear c_g1 f_g1 a_g1 d_g1 e_g1
        replace g1 := g1.below b; have c_g1 := g1.cell; have f_g1 := g1.free; have a_g1 := fun o => (g1.alloc o).cell; have d_g1 := fun o o2 => ((g1.alloc o).alloc o2).cell; have e_g1 := fun o => (g1.alloc o).free; replace rm := rm.below b; try clear c_g3 f_g3 a_g3 d_g3 e_g3
        replace g3 := g3.below b; have c_g3 := g3.cell; have f_g3 := g3.free; have a_g3 := fun o => (g3.alloc o).cell; have d_g3 := fun o o2 => ((g3.alloc o).alloc o2).cell; have e_g3 := fun o => (g3.alloc o).free; replace B := B.trans (b.mono B.size); clear b
        have q1 := o1.rd
        clear o1
        go_wp2_with fail
        refine (FM.out _ _ _ _ rm).mono ?_
        rintro e wa7 ⟨tb, ob, sb, rfl, rm2, b⟩
        try clear c_g1 f_g1 a_g1 d_g1 e_g1
        replace g1 := g1.below b; have c_g1 := g1.cell; have f_g1 := g1.free; have a_g1 := fun o => (g1.alloc o).cell; have d_g1 := fun o o2 => ((g1.alloc o).alloc o2).cell; have e_g1 := fun o => (g1.alloc o).free; try clear c_g3 f_g3 a_g3 d_g3 e_g3
        replace g3 := g3.below b; have c_g3 := g3.cell; have f_g3 := g3.free; have a_g3 := fun o => (g3.alloc o).cell; have d_g3 := fun o o2 => ((g3.alloc o).alloc o2).cell; have e_g3 := fun o => (g3.alloc o).free; replace rm := rm.below b; replace q1 := q1.below b; replace B := B.trans (b.mono B.size); clear b
        obtain ⟨⟨uA, un, uc, rfl⟩, ⟨pA, pn, pc, rfl⟩, ⟨qA, qn, qc, rfl⟩⟩ := rm2.forms2
        go_upto_region 7 with (fail)
        refine wp_gen (fun Wv => Bx Wv (wa7.heap.size) (87) (#[.slice uA un uc, .slice pA pn pc, .slice qA qn qc]) ∧ Below wa7.heap.size wa7 Wv) ⟨((Bx.at_ (by simp))), ((Below.refl _ wa7).alloc (by simp <;> omega) _)⟩ ?_
        rintro wa8 ⟨g5, b⟩
        try clear c_g1 f_g1 a_g1 d_g1 e_g1
        replace g1 := g1.below b; have c_g1 := g1.cell; have f_g1 := g1.free; have a_g1 := fun o => (g1.alloc o).cell; have d_g1 := fun o o2 => ((g1.alloc o).alloc o2).cell; have e_g1 := fun o => (g1.alloc o).free; try clear c_g3 f_g3 a_g3 d_g3 e_g3
        replace g3 := g3.below b; have c_g3 := g3.cell; have f_g3 := g3.free; have a_g3 := fun o => (g3.alloc o).cell; have d_g3 := fun o o2 => ((g3.alloc o).alloc o2).cell; have e_g3 := fun o => (g3.alloc o).free; replace rm := rm.below b; replace q1 := q1.below b; replace rm2 := rm2.below b; replace B := B.trans (b.mono B.size); clear b
        have c_g5 := g5.cell; have f_g5 := g5.free; have a_g5 := fun o => (g5.alloc o).cell; have d_g5 := fun o o2 => ((g5.alloc o).alloc o2).cell; have e_g5 := fun o => (g5.alloc o).free
        go_wp2_with fail
        refine (DA.out _ (H.out.below B)).mono ?_
        rintro e wa9 ⟨y2, rfl, o2, b⟩
        try clear c_g1 f_g1 a_g1 d_g1 e_g1
        replace g1 := g1.below b; have c_g1 := g1.cell; have f_g1 := g1.free; have a_g1 := fun o => (g1.alloc o).cell; have d_g1 := fun o o2 => ((g1.alloc o).alloc o2).cell; have e_g1 := fun o => (g1.alloc o).free; try clear c_g3 f_g3 a_g3 d_g3 e_g3
        replace g3 := g3.below b; have c_g3 := g3.cell; have f_g3 := g3.free; have a_g3 := fun o => (g3.alloc o).cell; have d_g3 := fun o o2 => ((g3.alloc o).alloc o2).cell; have e_g3 := fun o => (g3.alloc o).free; replace rm := rm.below b; replace q1 := q1.below b; replace rm2 := rm2.below b; try clear c_g5 f_g5 a_g5 d_g5 e_g5
        replace g5 := g5.below b; have c_g5 := g5.cell; have f_g5 := g5.free; have a_g5 := fun o => (g5.alloc o).cell; have d_g5 := fun o o2 => ((g5.alloc o).alloc o2).cell; have e_g5 := fun o => (g5.alloc o).free; replace B := B.trans (b.mono B.size); clear b
        have q2 := o2.rd
        clear o2
        go_wp2_with fail
        refine (DM.out _ _ _ _ rm).mono ?_
        rintro e wa10 ⟨tb3, ob3, sb3, rfl, rm3, b⟩
        try clear c_g1 f_g1 a_g1 d_g1 e_g1
        replace g1 := g1.below b; have c_g1 := g1.cell; have f_g1 := g1.free; have a_g1 := fun o => (g1.alloc o).cell; have d_g1 := fun o o2 => ((g1.alloc o).alloc o2).cell; have e_g1 := fun o => (g1.alloc o).free; try clear c_g3 f_g3 a_g3 d_g3 e_g3
        replace g3 := g3.below b; have c_g3 := g3.cell; have f_g3 := g3.free; have a_g3 := fun o => (g3.alloc o).cell; have d_g3 := fun o o2 => ((g3.alloc o).alloc o2).cell; have e_g3 := fun o => (g3.alloc o).free; try clear c_g5 f_g5 a_g5 d_g5 e_g5
        replace g5 := g5.below b; have c_g5 := g5.cell; have f_g5 := g5.free; have a_g5 := fun o => (g5.alloc o).cell; have d_g5 := fun o o2 => ((g5.alloc o).alloc o2).cell; have e_g5 := fun o => (g5.alloc o).free; replace rm := rm.below b; replace rm2 := rm2.below b; replace q1 := q1.below b; replace q2 := q2.below b; replace B := B.trans (b.mono B.size); clear b
        obtain ⟨⟨u3A, u3n, u3c, rfl⟩, ⟨p3A, p3n, p3c, rfl⟩, ⟨q3A, q3n, q3c, rfl⟩⟩ := rm3.forms2
        go_upto_region 9 with (fail)
        refine wp_gen (fun Wv => Bx Wv (wa10.heap.size) (87) (#[.slice u3A u3n u3c, .slice p3A p3n p3c, .slice q3A q3n q3c]) ∧ Below wa10.heap.size wa10 Wv) ⟨((Bx.at_ (by simp))), ((Below.refl _ wa10).alloc (by simp <;> omega) _)⟩ ?_
        rintro wa11 ⟨g6, b⟩
        try clear c_g1 f_g1 a_g1 d_g1 e_g1
        replace g1 := g1.below b; have c_g1 := g1.cell; have f_g1 := g1.free; have a_g1 := fun o => (g1.alloc o).cell; have d_g1 := fun o o2 => ((g1.alloc o).alloc o2).cell; have e_g1 := fun o => (g1.alloc o).free; try clear c_g3 f_g3 a_g3 d_g3 e_g3
        replace g3 := g3.below b; have c_g3 := g3.cell; have f_g3 := g3.free; have a_g3 := fun o => (g3.alloc o).cell; have d_g3 := fun o o2 => ((g3.alloc o).alloc o2).cell; have e_g3 := fun o => (g3.alloc o).free; try clear c_g5 f_g5 a_g5 d_g5 e_g5
        replace g5 := g5.below b; have c_g5 := g5.cell; have f_g5 := g5.free; have a_g5 := fun o => (g5.alloc o).cell; have d_g5 := fun o o2 => ((g5.alloc o).alloc o2).cell; have e_g5 := fun o => (g5.alloc o).free; replace rm := rm.below b; replace rm2 := rm2.below b; replace q1 := q1.below b; replace q2 := q2.below b; replace rm3 := rm3.below b; replace B := B.trans (b.mono B.size); clear b
        have c_g6 := g6.cell; have f_g6 := g6.free; have a_g6 := fun o => (g6.alloc o).cell; have d_g6 := fun o o2 => ((g6.alloc o).alloc o2).cell; have e_g6 := fun o => (g6.alloc o).free
        clear c_g1 f_g1 a_g1 d_g1 e_g1 c_g3 f_g3 a_g3 d_g3 e_g3
        clear g1 g3 rm
        go_wp2
        go_ret
        exact ⟨rfl, B⟩
      · have n1 : (r1 == 0) = false := by rw [beq_eq_false_iff_ne]; exact c1
        have OD := Lib.hid (fun v w h => OfM_any v l2 M2 0 (by rw [c4, ofM, if_pos c3.chk]) c3.chk.symm w h)
        have CD := Lib.hid (fun v w h => Check19_any v l2 0 c3.chk.symm w h)
        have SD := Lib.hid (fun t o s t2 o2 s2 w ha hb => Same20_any t o s t2 o2 s2 M2 M2 true (by simp) w ha hb)
        have HE2 := Lib.hid c5
        subst c2
        clear c1 c3 c4 c5
        go_enter Try.func11, Try.ntmps11
        go_upto_region 1 with (fail)
        refine wp_gen (fun Wv => Bx Wv (w.heap.size) (24) (#[.int .i64 a0, .int .i64 b0]) ∧ Below w.heap.size w Wv) ⟨((Bx.at_ (by simp))), ((Below.refl _ w).alloc (by simp <;> omega) _)⟩ ?_
        rintro wa1 ⟨g1, b⟩
        replace B := B.trans (b.mono B.size); clear b
        have c_g1 := g1.cell; have f_g1 := g1.free; have a_g1 := fun o => (g1.alloc o).cell; have d_g1 := fun o o2 => ((g1.alloc o).alloc o2).cell; have e_g1 := fun o => (g1.alloc o).free
        go_wp2_with fail
        refine (AL.out _).mono ?_
        rintro e wa2 ⟨rfl, b⟩
        try clear c_g1 f_g1 a_g1 d_g1 e_g1
        replace g1 := g1.below b; have c_g1 := g1.cell; have f_g1 := g1.free; have a_g1 := fun o => (g1.alloc o).cell; have d_g1 := fun o o2 => ((g1.alloc o).alloc o2).cell; have e_g1 := fun o => (g1.alloc o).free; replace B := B.trans (b.mono B.size); clear b
        go_wp2_with fail
        refine (G.out _ (H.out.below B)).mono ?_
        rintro e w2 ⟨rfl, rfl⟩
        go_wp2_with fail
        refine (CK.out _ (H.out.below B)).mono ?_
        rintro e wa3 ⟨rfl, b⟩
        try clear c_g1 f_g1 a_g1 d_g1 e_g1
        replace g1 := g1.below b; have c_g1 := g1.cell; have f_g1 := g1.free; have a_g1 := fun o => (g1.alloc o).cell; have d_g1 := fun o o2 => ((g1.alloc o).alloc o2).cell; have e_g1 := fun o => (g1.alloc o).free; replace B := B.trans (b.mono B.size); clear b
        go_wp2_with fail
        refine (OM.out _ (H.out.below B)).mono ?_
        rintro e wa4 ⟨ta, oa, sa, rfl, om, b⟩
        try clear c_g1 f_g1 a_g1 d_g1 e_g1
        replace g1 := g1.below b; have c_g1 := g1.cell; have f_g1 := g1.free; have a_g1 := fun o => (g1.alloc o).cell; have d_g1 := fun o o2 => ((g1.alloc o).alloc o2).cell; have e_g1 := fun o => (g1.alloc o).free; replace B := B.trans (b.mono B.size); clear b
        have rm := om.rd
        obtain ⟨⟨tA, tn, tc, rfl⟩, ⟨oA, on, oc, rfl⟩, ⟨sA, sn, sc, rfl⟩⟩ := om.rd.forms2
        clear om
        go_upto_region 5 with (fail)
        refine wp_gen (fun Wv => Bx Wv (wa4.heap.size) (87) (#[.slice tA tn tc, .slice oA on oc, .slice sA sn sc]) ∧ Below wa4.heap.size wa4 Wv) ⟨((Bx.at_ (by simp))), ((Below.refl _ wa4).alloc (by simp <;> omega) _)⟩ ?_
        rintro wa5 ⟨g3, b⟩
        try clear c_g1 f_g1 a_g1 d_g1 e_g1
        replace g1 := g1.below b; have c_g1 := g1.cell; have f_g1 := g1.free; have a_g1 := fun o => (g1.alloc o).cell; have d_g1 := fun o o2 => ((g1.alloc o).alloc o2).cell; have e_g1 := fun o => (g1.alloc o).free; replace rm := rm.below b; replace B := B.trans (b.mono B.size); clear b
        have c_g3 := g3.cell; have f_g3 := g3.free; have a_g3 := fun o => (g3.alloc o).cell; have d_g3 := fun o o2 => ((g3.alloc o).alloc o2).cell; have e_g3 := fun o => (g3.alloc o).free
        go_wp2_with fail
        refine (FA.out _ (H.out.below B)).mono ?_
        rintro e wa6 ⟨y1, rfl, o1, b⟩
        try clear c_g1 f_g1 a_g1 d_g1 e_g1
        replace g1 := g1.below b; have c_g1 := g1.cell; have f_g1 := g1.free; have a_g1 := fun o => (g1.alloc o).cell; have d_g1 := fun o o2 => ((g1.alloc o).alloc o2).cell; have e_g1 := fun o => (g1.alloc o).free; replace rm := rm.below b; try clear c_g3 f_g3 a_g3 d_g3 e_g3
        replace g3 := g3.below b; have c_g3 := g3.cell; have f_g3 := g3.free; have a_g3 := fun o => (g3.alloc o).cell; have d_g3 := fun o o2 => ((g3.alloc o).alloc o2).cell; have e_g3 := fun o => (g3.alloc o).free; replace B := B.trans (b.mono B.size); clear b
        have q1 := o1.rd
        clear o1
        go_wp2_with fail
        refine (FM.out _ _ _ _ rm).mono ?_
        rintro e wa7 ⟨tb, ob, sb, rfl, rm2, b⟩
        try clear c_g1 f_g1 a_g1 d_g1 e_g1
        replace g1 := g1.below b; have c_g1 := g1.cell; have f_g1 := g1.free; have a_g1 := fun o => (g1.alloc o).cell; have d_g1 := fun o o2 => ((g1.alloc o).alloc o2).cell; have e_g1 := fun o => (g1.alloc o).free; try clear c_g3 f_g3 a_g3 d_g3 e_g3
        replace g3 := g3.below b; have c_g3 := g3.cell; have f_g3 := g3.free; have a_g3 := fun o => (g3.alloc o).cell; have d_g3 := fun o o2 => ((g3.alloc o).alloc o2).cell; have e_g3 := fun o => (g3.alloc o).free; replace rm := rm.below b; replace q1 := q1.below b; replace B := B.trans (b.mono B.size); clear b
        obtain ⟨⟨uA, un, uc, rfl⟩, ⟨pA, pn, pc, rfl⟩, ⟨qA, qn, qc, rfl⟩⟩ := rm2.forms2
        go_upto_region 7 with (fail)
        refine wp_gen (fun Wv => Bx Wv (wa7.heap.size) (87) (#[.slice uA un uc, .slice pA pn pc, .slice qA qn qc]) ∧ Below wa7.heap.size wa7 Wv) ⟨((Bx.at_ (by simp))), ((Below.refl _ wa7).alloc (by simp <;> omega) _)⟩ ?_
        rintro wa8 ⟨g5, b⟩
        try clear c_g1 f_g1 a_g1 d_g1 e_g1
        replace g1 := g1.below b; have c_g1 := g1.cell; have f_g1 := g1.free; have a_g1 := fun o => (g1.alloc o).cell; have d_g1 := fun o o2 => ((g1.alloc o).alloc o2).cell; have e_g1 := fun o => (g1.alloc o).free; try clear c_g3 f_g3 a_g3 d_g3 e_g3
        replace g3 := g3.below b; have c_g3 := g3.cell; have f_g3 := g3.free; have a_g3 := fun o => (g3.alloc o).cell; have d_g3 := fun o o2 => ((g3.alloc o).alloc o2).cell; have e_g3 := fun o => (g3.alloc o).free; replace rm := rm.below b; replace q1 := q1.below b; replace rm2 := rm2.below b; replace B := B.trans (b.mono B.size); clear b
        have c_g5 := g5.cell; have f_g5 := g5.free; have a_g5 := fun o => (g5.alloc o).cell; have d_g5 := fun o o2 => ((g5.alloc o).alloc o2).cell; have e_g5 := fun o => (g5.alloc o).free
        go_wp2_with fail
        refine (DA.out _ (H.out.below B)).mono ?_
        rintro e wa9 ⟨y2, rfl, o2, b⟩
        try clear c_g1 f_g1 a_g1 d_g1 e_g1
        replace g1 := g1.below b; have c_g1 := g1.cell; have f_g1 := g1.free; have a_g1 := fun o => (g1.alloc o).cell; have d_g1 := fun o o2 => ((g1.alloc o).alloc o2).cell; have e_g1 := fun o => (g1.alloc o).free; try clear c_g3 f_g3 a_g3 d_g3 e_g3
        replace g3 := g3.below b; have c_g3 := g3.cell; have f_g3 := g3.free; have a_g3 := fun o => (g3.alloc o).cell; have d_g3 := fun o o2 => ((g3.alloc o).alloc o2).cell; have e_g3 := fun o => (g3.alloc o).free; replace rm := rm.below b; replace q1 := q1.below b; replace rm2 := rm2.below b; try clear c_g5 f_g5 a_g5 d_g5 e_g5
        replace g5 := g5.below b; have c_g5 := g5.cell; have f_g5 := g5.free; have a_g5 := fun o => (g5.alloc o).cell; have d_g5 := fun o o2 => ((g5.alloc o).alloc o2).cell; have e_g5 := fun o => (g5.alloc o).free; replace B := B.trans (b.mono B.size); clear b
        have q2 := o2.rd
        clear o2
        go_wp2_with fail
        refine (DM.out _ _ _ _ rm).mono ?_
        rintro e wa10 ⟨tb3, ob3, sb3, rfl, rm3, b⟩
        try clear c_g1 f_g1 a_g1 d_g1 e_g1
        replace g1 := g1.below b; have c_g1 := g1.cell; have f_g1 := g1.free; have a_g1 := fun o => (g1.alloc o).cell; have d_g1 := fun o o2 => ((g1.alloc o).alloc o2).cell; have e_g1 := fun o => (g1.alloc o).free; try clear c_g3 f_g3 a_g3 d_g3 e_g3
        replace g3 := g3.below b; have c_g3 := g3.cell; have f_g3 := g3.free; have a_g3 := fun o => (g3.alloc o).cell; have d_g3 := fun o o2 => ((g3.alloc o).alloc o2).cell; have e_g3 := fun o => (g3.alloc o).free; try clear c_g5 f_g5 a_g5 d_g5 e_g5
        replace g5 := g5.below b; have c_g5 := g5.cell; have f_g5 := g5.free; have a_g5 := fun o => (g5.alloc o).cell; have d_g5 := fun o o2 => ((g5.alloc o).alloc o2).cell; have e_g5 := fun o => (g5.alloc o).free; replace rm := rm.below b; replace rm2 := rm2.below b; replace q1 := q1.below b; replace q2 := q2.below b; replace B := B.trans (b.mono B.size); clear b
        obtain ⟨⟨u3A, u3n, u3c, rfl⟩, ⟨p3A, p3n, p3c, rfl⟩, ⟨q3A, q3n, q3c, rfl⟩⟩ := rm3.forms2
        go_upto_region 9 with (fail)
        refine wp_gen (fun Wv => Bx Wv (wa10.heap.size) (87) (#[.slice u3A u3n u3c, .slice p3A p3n p3c, .slice q3A q3n q3c]) ∧ Below wa10.heap.size wa10 Wv) ⟨((Bx.at_ (by simp))), ((Below.refl _ wa10).alloc (by simp <;> omega) _)⟩ ?_
        rintro wa11 ⟨g6, b⟩
        try clear c_g1 f_g1 a_g1 d_g1 e_g1
        replace g1 := g1.below b; have c_g1 := g1.cell; have f_g1 := g1.free; have a_g1 := fun o => (g1.alloc o).cell; have d_g1 := fun o o2 => ((g1.alloc o).alloc o2).cell; have e_g1 := fun o => (g1.alloc o).free; try clear c_g3 f_g3 a_g3 d_g3 e_g3
        replace g3 := g3.below b; have c_g3 := g3.cell; have f_g3 := g3.free; have a_g3 := fun o => (g3.alloc o).cell; have d_g3 := fun o o2 => ((g3.alloc o).alloc o2).cell; have e_g3 := fun o => (g3.alloc o).free; try clear c_g5 f_g5 a_g5 d_g5 e_g5
        replace g5 := g5.below b; have c_g5 := g5.cell; have f_g5 := g5.free; have a_g5 := fun o => (g5.alloc o).cell; have d_g5 := fun o o2 => ((g5.alloc o).alloc o2).cell; have e_g5 := fun o => (g5.alloc o).free; replace rm := rm.below b; replace rm2 := rm2.below b; replace q1 := q1.below b; replace q2 := q2.below b; replace rm3 := rm3.below b; replace B := B.trans (b.mono B.size); clear b
        have c_g6 := g6.cell; have f_g6 := g6.free; have a_g6 := fun o => (g6.alloc o).cell; have d_g6 := fun o o2 => ((g6.alloc o).alloc o2).cell; have e_g6 := fun o => (g6.alloc o).free
        clear c_g1 f_g1 a_g1 d_g1 e_g1 c_g3 f_g3 a_g3 d_g3 e_g3
        clear g1 g3 rm
        have lb := Rd.len q2 Try.underlying32
        rw [HE2.out] at lb
        have lb' : ∀ ty W, (Builtin.len_ #[32] ty #[y2]).run Try.prog W = .ok (.int .i64 1) W := lb
        clear lb
        go_wp2_with fail
        refine (MD.out _ _ (H.out.below B) q2).mono ?_
        rintro e wa12 ⟨zb, rfl, oz, b⟩
        try clear c_g5 f_g5 a_g5 d_g5 e_g5
        replace g5 := g5.below b; have c_g5 := g5.cell; have f_g5 := g5.free; have a_g5 := fun o => (g5.alloc o).cell; have d_g5 := fun o o2 => ((g5.alloc o).alloc o2).cell; have e_g5 := fun o => (g5.alloc o).free; try clear c_g6 f_g6 a_g6 d_g6 e_g6
        replace g6 := g6.below b; have c_g6 := g6.cell; have f_g6 := g6.free; have a_g6 := fun o => (g6.alloc o).cell; have d_g6 := fun o o2 => ((g6.alloc o).alloc o2).cell; have e_g6 := fun o => (g6.alloc o).free; replace rm2 := rm2.below b; replace rm3 := rm3.below b; replace q1 := q1.below b; replace q2 := q2.below b; replace B := B.trans (b.mono B.size); clear b
        have rzb := oz.rd
        clear oz
        go_wp2_with fail
        refine (OD.out _ _ rzb).mono ?_
        rintro e wa13 ⟨tb, ob, sb, rfl, om, b⟩
        try clear c_g5 f_g5 a_g5 d_g5 e_g5
        replace g5 := g5.below b; have c_g5 := g5.cell; have f_g5 := g5.free; have a_g5 := fun o => (g5.alloc o).cell; have d_g5 := fun o o2 => ((g5.alloc o).alloc o2).cell; have e_g5 := fun o => (g5.alloc o).free; try clear c_g6 f_g6 a_g6 d_g6 e_g6
        replace g6 := g6.below b; have c_g6 := g6.cell; have f_g6 := g6.free; have a_g6 := fun o => (g6.alloc o).cell; have d_g6 := fun o o2 => ((g6.alloc o).alloc o2).cell; have e_g6 := fun o => (g6.alloc o).free; replace rm2 := rm2.below b; replace rm3 := rm3.below b; replace q1 := q1.below b; replace q2 := q2.below b; replace rzb := rzb.below b; replace B := B.trans (b.mono B.size); clear b
        have rnb := om.rd
        obtain ⟨⟨tbA, tbn, tbc, rfl⟩, ⟨obA, obn, obc, rfl⟩, ⟨sbA, sbn, sbc, rfl⟩⟩ := om.rd.forms2
        clear om
        go_upto_region 19 with (fail)
        refine wp_gen (fun Wv => Bx Wv (wa13.heap.size) (87) (#[.slice tbA tbn tbc, .slice obA obn obc, .slice sbA sbn sbc]) ∧ Below wa13.heap.size wa13 Wv) ⟨((Bx.at_ (by simp))), ((Below.refl _ wa13).alloc (by simp <;> omega) _)⟩ ?_
        rintro wa14 ⟨g8, b⟩
        try clear c_g5 f_g5 a_g5 d_g5 e_g5
        replace g5 := g5.below b; have c_g5 := g5.cell; have f_g5 := g5.free; have a_g5 := fun o => (g5.alloc o).cell; have d_g5 := fun o o2 => ((g5.alloc o).alloc o2).cell; have e_g5 := fun o => (g5.alloc o).free; try clear c_g6 f_g6 a_g6 d_g6 e_g6
        replace g6 := g6.below b; have c_g6 := g6.cell; have f_g6 := g6.free; have a_g6 := fun o => (g6.alloc o).cell; have d_g6 := fun o o2 => ((g6.alloc o).alloc o2).cell; have e_g6 := fun o => (g6.alloc o).free; replace rm2 := rm2.below b; replace rm3 := rm3.below b; replace q1 := q1.below b; replace q2 := q2.below b; replace rzb := rzb.below b; replace rnb := rnb.below b; replace B := B.trans (b.mono B.size); clear b
        have c_g8 := g8.cell; have f_g8 := g8.free; have a_g8 := fun o => (g8.alloc o).cell; have d_g8 := fun o o2 => ((g8.alloc o).alloc o2).cell; have e_g8 := fun o => (g8.alloc o).free
        go_wp2_with fail
        refine (CD.out _ _ rzb).mono ?_
        rintro e wa15 ⟨rfl, b⟩
        try clear c_g5 f_g5 a_g5 d_g5 e_g5
        replace g5 := g5.below b; have c_g5 := g5.cell; have f_g5 := g5.free; have a_g5 := fun o => (g5.alloc o).cell; have d_g5 := fun o o2 => ((g5.alloc o).alloc o2).cell; have e_g5 := fun o => (g5.alloc o).free; try clear c_g6 f_g6 a_g6 d_g6 e_g6
        replace g6 := g6.below b; have c_g6 := g6.cell; have f_g6 := g6.free; have a_g6 := fun o => (g6.alloc o).cell; have d_g6 := fun o o2 => ((g6.alloc o).alloc o2).cell; have e_g6 := fun o => (g6.alloc o).free; replace rm2 := rm2.below b; replace rm3 := rm3.below b; replace q1 := q1.below b; replace q2 := q2.below b; replace rzb := rzb.below b; replace rnb := rnb.below b; try clear c_g8 f_g8 a_g8 d_g8 e_g8
        replace g8 := g8.below b; have c_g8 := g8.cell; have f_g8 := g8.free; have a_g8 := fun o => (g8.alloc o).cell; have d_g8 := fun o o2 => ((g8.alloc o).alloc o2).cell; have e_g8 := fun o => (g8.alloc o).free; replace B := B.trans (b.mono B.size); clear b
        go_wp2_with fail
        refine (SD.out _ _ _ _ _ _ _ rnb rm3).mono ?_
        rintro e wa16 ⟨rfl, b⟩
        try clear c_g5 f_g5 a_g5 d_g5 e_g5
        replace g5 := g5.below b; have c_g5 := g5.cell; have f_g5 := g5.free; have a_g5 := fun o => (g5.alloc o).cell; have d_g5 := fun o o2 => ((g5.alloc o).alloc o2).cell; have e_g5 := fun o => (g5.alloc o).free; try clear c_g6 f_g6 a_g6 d_g6 e_g6
        replace g6 := g6.below b; have c_g6 := g6.cell; have f_g6 := g6.free; have a_g6 := fun o => (g6.alloc o).cell; have d_g6 := fun o o2 => ((g6.alloc o).alloc o2).cell; have e_g6 := fun o => (g6.alloc o).free; replace rm2 := rm2.below b; replace rm3 := rm3.below b; replace q1 := q1.below b; replace q2 := q2.below b; replace rzb := rzb.below b; replace rnb := rnb.below b; try clear c_g8 f_g8 a_g8 d_g8 e_g8
        replace g8 := g8.below b; have c_g8 := g8.cell; have f_g8 := g8.free; have a_g8 := fun o => (g8.alloc o).cell; have d_g8 := fun o o2 => ((g8.alloc o).alloc o2).cell; have e_g8 := fun o => (g8.alloc o).free; replace B := B.trans (b.mono B.size); clear b
        go_wp2
        go_ret
        exact ⟨rfl, B⟩
      · have OD := Lib.hid (fun v w h => OfM_any v l2 M2 0 (by rw [c4, ofM, if_pos c3.chk]) c3.chk.symm w h)
        have CD := Lib.hid (fun v w h => Check19_any v l2 0 c3.chk.symm w h)
        have SD := Lib.hid (fun t o s t2 o2 s2 w ha hb => Same20_any t o s t2 o2 s2 M2 M2 true (by simp) w ha hb)
        have OF := Lib.hid (fun v w h => OfM_any v l1 M1 0 (by rw [c7, ofM, if_pos c6.chk]) c6.chk.symm w h)
        have CF := Lib.hid (fun v w h => Check19_any v l1 0 c6.chk.symm w h)
        have SF := Lib.hid (fun t o s t2 o2 s2 w ha hb => Same20_any t o s t2 o2 s2 M1 M1 true (by simp) w ha hb)
        have HE2 := Lib.hid c5
        have HE1 := Lib.hid c8
        subst c1; subst c2
        clear c3 c4 c5 c6 c7 c8
        go_enter Try.func11, Try.ntmps11
        go_upto_region 1 with (fail)
        refine wp_gen (fun Wv => Bx Wv (w.heap.size) (24) (#[.int .i64 a0, .int .i64 b0]) ∧ Below w.heap.size w Wv) ⟨((Bx.at_ (by simp))), ((Below.refl _ w).alloc (by simp <;> omega) _)⟩ ?_
        rintro wa1 ⟨g1, b⟩
        replace B := B.trans (b.mono B.size); clear b
        have c_g1 := g1.cell; have f_g1 := g1.free; have a_g1 := fun o => (g1.alloc o).cell; have d_g1 := fun o o2 => ((g1.alloc o).alloc o2).cell; have e_g1 := fun o => (g1.alloc o).free
        go_wp2_with fail
        refine (AL.out _).mono ?_
        rintro e wa2 ⟨rfl, b⟩
        try clear c_g1 f_g1 a_g1 d_g1 e_g1
        replace g1 := g1.below b; have c_g1 := g1.cell; have f_g1 := g1.free; have a_g1 := fun o => (g1.alloc o).cell; have d_g1 := fun o o2 => ((g1.alloc o).alloc o2).cell; have e_g1 := fun o => (g1.alloc o).free; replace B := B.trans (b.mono B.size); clear b
        go_wp2_with fail
        refine (G.out _ (H.out.below B)).mono ?_
        rintro e w2 ⟨rfl, rfl⟩
        go_wp2_with fail
        refine (CK.out _ (H.out.below B)).mono ?_
        rintro e wa3 ⟨rfl, b⟩
        try clear c_g1 f_g1 a_g1 d_g1 e_g1
        replace g1 := g1.below b; have c_g1 := g1.cell; have f_g1 := g1.free; have a_g1 := fun o => (g1.alloc o).cell; have d_g1 := fun o o2 => ((g1.alloc o).alloc o2).cell; have e_g1 := fun o => (g1.alloc o).free; replace B := B.trans (b.mono B.size); clear b
        go_wp2_with fail
        refine (OM.out _ (H.out.below B)).mono ?_
        rintro e wa4 ⟨ta, oa, sa, rfl, om, b⟩
        try clear c_g1 f_g1 a_g1 d_g1 e_g1
        replace g1 := g1.below b; have c_g1 := g1.cell; have f_g1 := g1.free; have a_g1 := fun o => (g1.alloc o).cell; have d_g1 := fun o o2 => ((g1.alloc o).alloc o2).cell; have e_g1 := fun o => (g1.alloc o).free; replace B := B.trans (b.mono B.size); clear b
        have rm := om.rd
        obtain ⟨⟨tA, tn, tc, rfl⟩, ⟨oA, on, oc, rfl⟩, ⟨sA, sn, sc, rfl⟩⟩ := om.rd.forms2
        clear om
        go_upto_region 5 with (fail)
        refine wp_gen (fun Wv => Bx Wv (wa4.heap.size) (87) (#[.slice tA tn tc, .slice oA on oc, .slice sA sn sc]) ∧ Below wa4.heap.size wa4 Wv) ⟨((Bx.at_ (by simp))), ((Below.refl _ wa4).alloc (by simp <;> omega) _)⟩ ?_
        rintro wa5 ⟨g3, b⟩
        try clear c_g1 f_g1 a_g1 d_g1 e_g1
        replace g1 := g1.below b; have c_g1 := g1.cell; have f_g1 := g1.free; have a_g1 := fun o => (g1.alloc o).cell; have d_g1 := fun o o2 => ((g1.alloc o).alloc o2).cell; have e_g1 := fun o => (g1.alloc o).free; replace rm := rm.below b; replace B := B.trans (b.mono B.size); clear b
        have c_g3 := g3.cell; have f_g3 := g3.free; have a_g3 := fun o => (g3.alloc o).cell; have d_g3 := fun o o2 => ((g3.alloc o).alloc o2).cell; have e_g3 := fun o => (g3.alloc o).free
        go_wp2_with fail
        refine (FA.out _ (H.out.below B)).mono ?_
        rintro e wa6 ⟨y1, rfl, o1, b⟩
        try clear c_g1 f_g1 a_g1 d_g1 e_g1
        replace g1 := g1.below b; have c_g1 := g1.cell; have f_g1 := g1.free; have a_g1 := fun o => (g1.alloc o).cell; have d_g1 := fun o o2 => ((g1.alloc o).alloc o2).cell; have e_g1 := fun o => (g1.alloc o).free; replace rm := rm.below b; try clear c_g3 f_g3 a_g3 d_g3 e_g3
        replace g3 := g3.below b; have c_g3 := g3.cell; have f_g3 := g3.free; have a_g3 := fun o => (g3.alloc o).cell; have d_g3 := fun o o2 => ((g3.alloc o).alloc o2).cell; have e_g3 := fun o => (g3.alloc o).free; replace B := B.trans (b.mono B.size); clear b
        have q1 := o1.rd
        clear o1
        go_wp2_with fail
        refine (FM.out _ _ _ _ rm).mono ?_
        rintro e wa7 ⟨tb, ob, sb, rfl, rm2, b⟩
        try clear c_g1 f_g1 a_g1 d_g1 e_g1
        replace g1 := g1.below b; have c_g1 := g1.cell; have f_g1 := g1.free; have a_g1 := fun o => (g1.alloc o).cell; have d_g1 := fun o o2 => ((g1.alloc o).alloc o2).cell; have e_g1 := fun o => (g1.alloc o).free; try clear c_g3 f_g3 a_g3 d_g3 e_g3
        replace g3 := g3.below b; have c_g3 := g3.cell; have f_g3 := g3.free; have a_g3 := fun o => (g3.alloc o).cell; have d_g3 := fun o o2 => ((g3.alloc o).alloc o2).cell; have e_g3 := fun o => (g3.alloc o).free; replace rm := rm.below b; replace q1 := q1.below b; replace B := B.trans (b.mono B.size); clear b
        obtain ⟨⟨uA, un, uc, rfl⟩, ⟨pA, pn, pc, rfl⟩, ⟨qA, qn, qc, rfl⟩⟩ := rm2.forms2
        go_upto_region 7 with (fail)
        refine wp_gen (fun Wv => Bx Wv (wa7.heap.size) (87) (#[.slice uA un uc, .slice pA pn pc, .slice qA qn qc]) ∧ Below wa7.heap.size wa7 Wv) ⟨((Bx.at_ (by simp))), ((Below.refl _ wa7).alloc (by simp <;> omega) _)⟩ ?_
        rintro wa8 ⟨g5, b⟩
        try clear c_g1 f_g1 a_g1 d_g1 e_g1
        replace g1 := g1.below b; have c_g1 := g1.cell; have f_g1 := g1.free; have a_g1 := fun o => (g1.alloc o).cell; have d_g1 := fun o o2 => ((g1.alloc o).alloc o2).cell; have e_g1 := fun o => (g1.alloc o).free; try clear c_g3 f_g3 a_g3 d_g3 e_g3
        replace g3 := g3.below b; have c_g3 := g3.cell; have f_g3 := g3.free; have a_g3 := fun o => (g3.alloc o).cell; have d_g3 := fun o o2 => ((g3.alloc o).alloc o2).cell; have e_g3 := fun o => (g3.alloc o).free; replace rm := rm.below b; replace q1 := q1.below b; replace rm2 := rm2.below b; replace B := B.trans (b.mono B.size); clear b
        have c_g5 := g5.cell; have f_g5 := g5.free; have a_g5 := fun o => (g5.alloc o).cell; have d_g5 := fun o o2 => ((g5.alloc o).alloc o2).cell; have e_g5 := fun o => (g5.alloc o).free
        go_wp2_with fail
        refine (DA.out _ (H.out.below B)).mono ?_
        rintro e wa9 ⟨y2, rfl, o2, b⟩
        try clear c_g1 f_g1 a_g1 d_g1 e_g1
        replace g1 := g1.below b; have c_g1 := g1.cell; have f_g1 := g1.free; have a_g1 := fun o => (g1.alloc o).cell; have d_g1 := fun o o2 => ((g1.alloc o).alloc o2).cell; have e_g1 := fun o => (g1.alloc o).free; try clear c_g3 f_g3 a_g3 d_g3 e_g3
        replace g3 := g3.below b; have c_g3 := g3.cell; have f_g3 := g3.free; have a_g3 := fun o => (g3.alloc o).cell; have d_g3 := fun o o2 => ((g3.alloc o).alloc o2).cell; have e_g3 := fun o => (g3.alloc o).free; replace rm := rm.below b; replace q1 := q1.below b; replace rm2 := rm2.below b; try clear c_g5 f_g5 a_g5 d_g5 e_g5
        replace g5 := g5.below b; have c_g5 := g5.cell; have f_g5 := g5.free; have a_g5 := fun o => (g5.alloc o).cell; have d_g5 := fun o o2 => ((g5.alloc o).alloc o2).cell; have e_g5 := fun o => (g5.alloc o).free; replace B := B.trans (b.mono B.size); clear b
        have q2 := o2.rd
        clear o2
        go_wp2_with fail
        refine (DM.out _ _ _ _ rm).mono ?_
        rintro e wa10 ⟨tb3, ob3, sb3, rfl, rm3, b⟩
        try clear c_g1 f_g1 a_g1 d_g1 e_g1
        replace g1 := g1.below b; have c_g1 := g1.cell; have f_g1 := g1.free; have a_g1 := fun o => (g1.alloc o).cell; have d_g1 := fun o o2 => ((g1.alloc o).alloc o2).cell; have e_g1 := fun o => (g1.alloc o).free; try clear c_g3 f_g3 a_g3 d_g3 e_g3
        replace g3 := g3.below b; have c_g3 := g3.cell; have f_g3 := g3.free; have a_g3 := fun o => (g3.alloc o).cell; have d_g3 := fun o o2 => ((g3.alloc o).alloc o2).cell; have e_g3 := fun o => (g3.alloc o).free; try clear c_g5 f_g5 a_g5 d_g5 e_g5
        replace g5 := g5.below b; have c_g5 := g5.cell; have f_g5 := g5.free; have a_g5 := fun o => (g5.alloc o).cell; have d_g5 := fun o o2 => ((g5.alloc o).alloc o2).cell; have e_g5 := fun o => (g5.alloc o).free; replace rm := rm.below b; replace rm2 := rm2.below b; replace q1 := q1.below b; replace q2 := q2.below b; replace B := B.trans (b.mono B.size); clear b
        obtain ⟨⟨u3A, u3n, u3c, rfl⟩, ⟨p3A, p3n, p3c, rfl⟩, ⟨q3A, q3n, q3c, rfl⟩⟩ := rm3.forms2
        go_upto_region 9 with (fail)
        refine wp_gen (fun Wv => Bx Wv (wa10.heap.size) (87) (#[.slice u3A u3n u3c, .slice p3A p3n p3c, .slice q3A q3n q3c]) ∧ Below wa10.heap.size wa10 Wv) ⟨((Bx.at_ (by simp))), ((Below.refl _ wa10).alloc (by simp <;> omega) _)⟩ ?_
        rintro wa11 ⟨g6, b⟩
        try clear c_g1 f_g1 a_g1 d_g1 e_g1
        replace g1 := g1.below b; have c_g1 := g1.cell; have f_g1 := g1.free; have a_g1 := fun o => (g1.alloc o).cell; have d_g1 := fun o o2 => ((g1.alloc o).alloc o2).cell; have e_g1 := fun o => (g1.alloc o).free; try clear c_g3 f_g3 a_g3 d_g3 e_g3
        replace g3 := g3.below b; have c_g3 := g3.cell; have f_g3 := g3.free; have a_g3 := fun o => (g3.alloc o).cell; have d_g3 := fun o o2 => ((g3.alloc o).alloc o2).cell; have e_g3 := fun o => (g3.alloc o).free; try clear c_g5 f_g5 a_g5 d_g5 e_g5
        replace g5 := g5.below b; have c_g5 := g5.cell; have f_g5 := g5.free; have a_g5 := fun o => (g5.alloc o).cell; have d_g5 := fun o o2 => ((g5.alloc o).alloc o2).cell; have e_g5 := fun o => (g5.alloc o).free; replace rm := rm.below b; replace rm2 := rm2.below b; replace q1 := q1.below b; replace q2 := q2.below b; replace rm3 := rm3.below b; replace B := B.trans (b.mono B.size); clear b
        have c_g6 := g6.cell; have f_g6 := g6.free; have a_g6 := fun o => (g6.alloc o).cell; have d_g6 := fun o o2 => ((g6.alloc o).alloc o2).cell; have e_g6 := fun o => (g6.alloc o).free
        clear c_g1 f_g1 a_g1 d_g1 e_g1 c_g3 f_g3 a_g3 d_g3 e_g3
        clear g1 g3 rm
        have la := Rd.len q1 Try.underlying32
        rw [HE1.out] at la
        have la' : ∀ ty W, (Builtin.len_ #[32] ty #[y1]).run Try.prog W = .ok (.int .i64 2) W := la
        clear la
        go_wp2_with fail
        refine (MF.out _ _ (H.out.below B) q1).mono ?_
        rintro e wa12 ⟨za, rfl, oz, b⟩
        try clear c_g5 f_g5 a_g5 d_g5 e_g5
        replace g5 := g5.below b; have c_g5 := g5.cell; have f_g5 := g5.free; have a_g5 := fun o => (g5.alloc o).cell; have d_g5 := fun o o2 => ((g5.alloc o).alloc o2).cell; have e_g5 := fun o => (g5.alloc o).free; try clear c_g6 f_g6 a_g6 d_g6 e_g6
        replace g6 := g6.below b; have c_g6 := g6.cell; have f_g6 := g6.free; have a_g6 := fun o => (g6.alloc o).cell; have d_g6 := fun o o2 => ((g6.alloc o).alloc o2).cell; have e_g6 := fun o => (g6.alloc o).free; replace rm2 := rm2.below b; replace rm3 := rm3.below b; replace q1 := q1.below b; replace q2 := q2.below b; replace B := B.trans (b.mono B.size); clear b
        have rza := oz.rd
        clear oz
        go_wp2_with fail
        refine (OF.out _ _ rza).mono ?_
        rintro e wa13 ⟨ta, oa, sa, rfl, om, b⟩
        try clear c_g5 f_g5 a_g5 d_g5 e_g5
        replace g5 := g5.below b; have c_g5 := g5.cell; have f_g5 := g5.free; have a_g5 := fun o => (g5.alloc o).cell; have d_g5 := fun o o2 => ((g5.alloc o).alloc o2).cell; have e_g5 := fun o => (g5.alloc o).free; try clear c_g6 f_g6 a_g6 d_g6 e_g6
        replace g6 := g6.below b; have c_g6 := g6.cell; have f_g6 := g6.free; have a_g6 := fun o => (g6.alloc o).cell; have d_g6 := fun o o2 => ((g6.alloc o).alloc o2).cell; have e_g6 := fun o => (g6.alloc o).free; replace rm2 := rm2.below b; replace rm3 := rm3.below b; replace q1 := q1.below b; replace q2 := q2.below b; replace rza := rza.below b; replace B := B.trans (b.mono B.size); clear b
        have rna := om.rd
        obtain ⟨⟨taA, tan, tac, rfl⟩, ⟨oaA, oan, oac, rfl⟩, ⟨saA, san, sac, rfl⟩⟩ := om.rd.forms2
        clear om
        go_upto_region 14 with (fail)
        refine wp_gen (fun Wv => Bx Wv (wa13.heap.size) (87) (#[.slice taA tan tac, .slice oaA oan oac, .slice saA san sac]) ∧ Below wa13.heap.size wa13 Wv) ⟨((Bx.at_ (by simp))), ((Below.refl _ wa13).alloc (by simp <;> omega) _)⟩ ?_
        rintro wa14 ⟨g9, b⟩
        try clear c_g5 f_g5 a_g5 d_g5 e_g5
        replace g5 := g5.below b; have c_g5 := g5.cell; have f_g5 := g5.free; have a_g5 := fun o => (g5.alloc o).cell; have d_g5 := fun o o2 => ((g5.alloc o).alloc o2).cell; have e_g5 := fun o => (g5.alloc o).free; try clear c_g6 f_g6 a_g6 d_g6 e_g6
        replace g6 := g6.below b; have c_g6 := g6.cell; have f_g6 := g6.free; have a_g6 := fun o => (g6.alloc o).cell; have d_g6 := fun o o2 => ((g6.alloc o).alloc o2).cell; have e_g6 := fun o => (g6.alloc o).free; replace rm2 := rm2.below b; replace rm3 := rm3.below b; replace q1 := q1.below b; replace q2 := q2.below b; replace rza := rza.below b; replace rna := rna.below b; replace B := B.trans (b.mono B.size); clear b
        have c_g9 := g9.cell; have f_g9 := g9.free; have a_g9 := fun o => (g9.alloc o).cell; have d_g9 := fun o o2 => ((g9.alloc o).alloc o2).cell; have e_g9 := fun o => (g9.alloc o).free
        go_wp2_with fail
        refine (CF.out _ _ rza).mono ?_
        rintro e wa15 ⟨rfl, b⟩
        try clear c_g5 f_g5 a_g5 d_g5 e_g5
        replace g5 := g5.below b; have c_g5 := g5.cell; have f_g5 := g5.free; have a_g5 := fun o => (g5.alloc o).cell; have d_g5 := fun o o2 => ((g5.alloc o).alloc o2).cell; have e_g5 := fun o => (g5.alloc o).free; try clear c_g6 f_g6 a_g6 d_g6 e_g6
        replace g6 := g6.below b; have c_g6 := g6.cell; have f_g6 := g6.free; have a_g6 := fun o => (g6.alloc o).cell; have d_g6 := fun o o2 => ((g6.alloc o).alloc o2).cell; have e_g6 := fun o => (g6.alloc o).free; replace rm2 := rm2.below b; replace rm3 := rm3.below b; replace q1 := q1.below b; replace q2 := q2.below b; replace rza := rza.below b; replace rna := rna.below b; try clear c_g9 f_g9 a_g9 d_g9 e_g9
        replace g9 := g9.below b; have c_g9 := g9.cell; have f_g9 := g9.free; have a_g9 := fun o => (g9.alloc o).cell; have d_g9 := fun o o2 => ((g9.alloc o).alloc o2).cell; have e_g9 := fun o => (g9.alloc o).free; replace B := B.trans (b.mono B.size); clear b
        go_wp2_with fail
        refine (SF.out _ _ _ _ _ _ _ rna rm2).mono ?_
        rintro e wa16 ⟨rfl, b⟩
        try clear c_g5 f_g5 a_g5 d_g5 e_g5
        replace g5 := g5.below b; have c_g5 := g5.cell; have f_g5 := g5.free; have a_g5 := fun o => (g5.alloc o).cell; have d_g5 := fun o o2 => ((g5.alloc o).alloc o2).cell; have e_g5 := fun o => (g5.alloc o).free; try clear c_g6 f_g6 a_g6 d_g6 e_g6
        replace g6 := g6.below b; have c_g6 := g6.cell; have f_g6 := g6.free; have a_g6 := fun o => (g6.alloc o).cell; have d_g6 := fun o o2 => ((g6.alloc o).alloc o2).cell; have e_g6 := fun o => (g6.alloc o).free; replace rm2 := rm2.below b; replace rm3 := rm3.below b; replace q1 := q1.below b; replace q2 := q2.below b; replace rza := rza.below b; replace rna := rna.below b; try clear c_g9 f_g9 a_g9 d_g9 e_g9
        replace g9 := g9.below b; have c_g9 := g9.cell; have f_g9 := g9.free; have a_g9 := fun o => (g9.alloc o).cell; have d_g9 := fun o o2 => ((g9.alloc o).alloc o2).cell; have e_g9 := fun o => (g9.alloc o).free; replace B := B.trans (b.mono B.size); clear b
        clear c_g9 f_g9 a_g9 d_g9 e_g9
        clear g9
        have lb := Rd.len q2 Try.underlying32
        rw [HE2.out] at lb
        have lb' : ∀ ty W, (Builtin.len_ #[32] ty #[y2]).run Try.prog W = .ok (.int .i64 1) W := lb
        clear lb
        go_wp2_with fail
        refine (MD.out _ _ (H.out.below B) q2).mono ?_
        rintro e wa17 ⟨zb, rfl, oz, b⟩
        try clear c_g5 f_g5 a_g5 d_g5 e_g5
        replace g5 := g5.below b; have c_g5 := g5.cell; have f_g5 := g5.free; have a_g5 := fun o => (g5.alloc o).cell; have d_g5 := fun o o2 => ((g5.alloc o).alloc o2).cell; have e_g5 := fun o => (g5.alloc o).free; try clear c_g6 f_g6 a_g6 d_g6 e_g6
        replace g6 := g6.below b; have c_g6 := g6.cell; have f_g6 := g6.free; have a_g6 := fun o => (g6.alloc o).cell; have d_g6 := fun o o2 => ((g6.alloc o).alloc o2).cell; have e_g6 := fun o => (g6.alloc o).free; replace rm2 := rm2.below b; replace rm3 := rm3.below b; replace q1 := q1.below b; replace q2 := q2.below b; replace B := B.trans (b.mono B.size); clear b
        have rzb := oz.rd
        clear oz
        go_wp2_with fail
        refine (OD.out _ _ rzb).mono ?_
        rintro e wa18 ⟨tb, ob, sb, rfl, om, b⟩
        try clear c_g5 f_g5 a_g5 d_g5 e_g5
        replace g5 := g5.below b; have c_g5 := g5.cell; have f_g5 := g5.free; have a_g5 := fun o => (g5.alloc o).cell; have d_g5 := fun o o2 => ((g5.alloc o).alloc o2).cell; have e_g5 := fun o => (g5.alloc o).free; try clear c_g6 f_g6 a_g6 d_g6 e_g6
        replace g6 := g6.below b; have c_g6 := g6.cell; have f_g6 := g6.free; have a_g6 := fun o => (g6.alloc o).cell; have d_g6 := fun o o2 => ((g6.alloc o).alloc o2).cell; have e_g6 := fun o => (g6.alloc o).free; replace rm2 := rm2.below b; replace rm3 := rm3.below b; replace q1 := q1.below b; replace q2 := q2.below b; replace rzb := rzb.below b; replace B := B.trans (b.mono B.size); clear b
        have rnb := om.rd
        obtain ⟨⟨tbA, tbn, tbc, rfl⟩, ⟨obA, obn, obc, rfl⟩, ⟨sbA, sbn, sbc, rfl⟩⟩ := om.rd.forms2
        clear om
        go_upto_region 19 with (fail)
        refine wp_gen (fun Wv => Bx Wv (wa18.heap.size) (87) (#[.slice tbA tbn tbc, .slice obA obn obc, .slice sbA sbn sbc]) ∧ Below wa18.heap.size wa18 Wv) ⟨((Bx.at_ (by simp))), ((Below.refl _ wa18).alloc (by simp <;> omega) _)⟩ ?_
        rintro wa19 ⟨g8, b⟩
        try clear c_g5 f_g5 a_g5 d_g5 e_g5
        replace g5 := g5.below b; have c_g5 := g5.cell; have f_g5 := g5.free; have a_g5 := fun o => (g5.alloc o).cell; have d_g5 := fun o o2 => ((g5.alloc o).alloc o2).cell; have e_g5 := fun o => (g5.alloc o).free; try clear c_g6 f_g6 a_g6 d_g6 e_g6
        replace g6 := g6.below b; have c_g6 := g6.cell; have f_g6 := g6.free; have a_g6 := fun o => (g6.alloc o).cell; have d_g6 := fun o o2 => ((g6.alloc o).alloc o2).cell; have e_g6 := fun o => (g6.alloc o).free; replace rm2 := rm2.below b; replace rm3 := rm3.below b; replace q1 := q1.below b; replace q2 := q2.below b; replace rzb := rzb.below b; replace rnb := rnb.below b; replace B := B.trans (b.mono B.size); clear b
        have c_g8 := g8.cell; have f_g8 := g8.free; have a_g8 := fun o => (g8.alloc o).cell; have d_g8 := fun o o2 => ((g8.alloc o).alloc o2).cell; have e_g8 := fun o => (g8.alloc o).free
        go_wp2_with fail
        refine (CD.out _ _ rzb).mono ?_
        rintro e wa20 ⟨rfl, b⟩
        try clear c_g5 f_g5 a_g5 d_g5 e_g5
        replace g5 := g5.below b; have c_g5 := g5.cell; have f_g5 := g5.free; have a_g5 := fun o => (g5.alloc o).cell; have d_g5 := fun o o2 => ((g5.alloc o).alloc o2).cell; have e_g5 := fun o => (g5.alloc o).free; try clear c_g6 f_g6 a_g6 d_g6 e_g6
        replace g6 := g6.below b; have c_g6 := g6.cell; have f_g6 := g6.free; have a_g6 := fun o => (g6.alloc o).cell; have d_g6 := fun o o2 => ((g6.alloc o).alloc o2).cell; have e_g6 := fun o => (g6.alloc o).free; replace rm2 := rm2.below b; replace rm3 := rm3.below b; replace q1 := q1.below b; replace q2 := q2.below b; replace rzb := rzb.below b; replace rnb := rnb.below b; try clear c_g8 f_g8 a_g8 d_g8 e_g8
        replace g8 := g8.below b; have c_g8 := g8.cell; have f_g8 := g8.free; have a_g8 := fun o => (g8.alloc o).cell; have d_g8 := fun o o2 => ((g8.alloc o).alloc o2).cell; have e_g8 := fun o => (g8.alloc o).free; replace B := B.trans (b.mono B.size); clear b
        go_wp2_with fail
        refine (SD.out _ _ _ _ _ _ _ rnb rm3).mono ?_
        rintro e wa21 ⟨rfl, b⟩
        try clear c_g5 f_g5 a_g5 d_g5 e_g5
        replace g5 := g5.below b; have c_g5 := g5.cell; have f_g5 := g5.free; have a_g5 := fun o => (g5.alloc o).cell; have d_g5 := fun o o2 => ((g5.alloc o).alloc o2).cell; have e_g5 := fun o => (g5.alloc o).free; try clear c_g6 f_g6 a_g6 d_g6 e_g6
        replace g6 := g6.below b; have c_g6 := g6.cell; have f_g6 := g6.free; have a_g6 := fun o => (g6.alloc o).cell; have d_g6 := fun o o2 => ((g6.alloc o).alloc o2).cell; have e_g6 := fun o => (g6.alloc o).free; replace rm2 := rm2.below b; replace rm3 := rm3.below b; replace q1 := q1.below b; replace q2 := q2.below b; replace rzb := rzb.below b; replace rnb := rnb.below b; try clear c_g8 f_g8 a_g8 d_g8 e_g8
        replace g8 := g8.below b; have c_g8 := g8.cell; have f_g8 := g8.free; have a_g8 := fun o => (g8.alloc o).cell; have d_g8 := fun o o2 => ((g8.alloc o).alloc o2).cell; have e_g8 := fun o => (g8.alloc o).free; replace B := B.trans (b.mono B.size); clear b
        go_wp2
        go_ret
        exact ⟨rfl, B⟩
end Go.Proofs.Ytiiilaojllmmiaa
