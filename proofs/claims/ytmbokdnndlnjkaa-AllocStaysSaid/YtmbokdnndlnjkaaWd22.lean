/- The walk of the law AllocStays. -/
import Derived.Test.YtmbokdnndlnjkaaMBy
set_option linter.unusedVariables false
set_option linter.unusedSimpArgs false
namespace Go.Proofs.Ytmbokdnndlnjkaa
open Go.RowKit L01 L02 L05 L06 L07 L13 L14 L15 L16 L18 L19 L20

theorem enter_numbered (a b : Value) (W : World) : (callFunc 46 (#[] ++ #[a, b] ++ #[])).run Try.prog W = .ok (.enter 46 #[a, b]) W := by
  kernel_rfl

set_option maxRecDepth 100000 in
set_option maxHeartbeats 16000000 in
theorem AllocStays_walk (v0 : Value) (l : List UInt64) (ti : Int) (w : World) (h0 : Words w v0 l) (_f1 : -9223372036854775808 ≤ ti ∧ ti ≤ 9223372036854775807) :
    Calls Try.prog 9 #[v0, .int .i64 ti] w fun e w' => e = .returned (.bool true) ∧ Below w.heap.size w w' := by
  have B : Below w.heap.size w w := Below.refl _ _
  have H := Lib.hid h0; clear h0 _f1
  have AL := Lib.hid alive22_any
  have G := Lib.hid (fun w h => Great_any v0 l w h)
  obtain ⟨gr, hgr⟩ : ∃ g, g = decide (2100 < l.length) := ⟨_, rfl⟩
  have HGR := Lib.hid hgr
  rw [← hgr] at G
  clear hgr
  cases gr
  case true =>
    go_enter Try.func9, Try.ntmps9
    go_wp2_with fail
    refine (AL.out _).mono ?_
    rintro e wa1 ⟨rfl, b⟩
    replace B := B.trans (b.mono B.size); clear b
    go_wp2_with fail
    refine (G.out _ (H.out.below B)).mono ?_
    rintro e w2 ⟨rfl, rfl⟩
    go_wp2
    go_ret
    exact ⟨rfl, B⟩
  case false =>
    have hln : l.length ≤ 2100 := by have := HGR.out; simp at this; omega
    obtain ⟨c9, hc⟩ : ∃ v, v = chk19 l := ⟨_, rfl⟩
    have CK := Lib.hid (fun w h => Check19_any v0 l c9 hc w h)
    by_cases h0 : c9 = 0
    case neg =>
      have n1 : (c9 != 0) = true := by rw [bne_iff_ne]; exact h0
      clear hc h0 hln
      go_enter Try.func9, Try.ntmps9
      go_wp2_with fail
      refine (AL.out _).mono ?_
      rintro e wa1 ⟨rfl, b⟩
      replace B := B.trans (b.mono B.size); clear b
      go_wp2_with fail
      refine (G.out _ (H.out.below B)).mono ?_
      rintro e w2 ⟨rfl, rfl⟩
      go_wp2_with fail
      refine (CK.out _ (H.out.below B)).mono ?_
      rintro e wa2 ⟨rfl, b⟩
      replace B := B.trans (b.mono B.size); clear b
      go_wp2
      go_ret
      exact ⟨rfl, B⟩
    case pos =>
      subst h0
      have rt : Rt l := Rt.of hc.symm
      obtain ⟨E, hE⟩ : ∃ x, x = aiL l ti := ⟨_, rfl⟩
      obtain ⟨s1, hs1⟩ : ∃ x, x = aiS l ti := ⟨_, rfl⟩
      obtain ⟨s2, hs2⟩ : ∃ x, x = aiG l ti := ⟨_, rfl⟩
      obtain ⟨r, hr⟩ : ∃ x, x = aiE l ti := ⟨_, rfl⟩
      have CH := Lib.hid (fun w h => Change_any v0 l ti E s1 s2 r hE hs1 hs2 hr w h)
      obtain ⟨m, hm⟩ : ∃ m, m = L19.seen l := ⟨_, rfl⟩
      have OM := Lib.hid (fun w h => OfM_any v0 l m 0 (by rw [hm, ofM, if_pos rt.chk]) hc w h)
      obtain ⟨MM, hMM⟩ : ∃ x, x = allM m ti := ⟨_, rfl⟩
      obtain ⟨h1, hh1⟩ : ∃ x, x = allS m ti := ⟨_, rfl⟩
      obtain ⟨h2, hh2⟩ : ∃ x, x = allG m ti := ⟨_, rfl⟩
      obtain ⟨r2, hr2⟩ : ∃ x, x = allE m ti := ⟨_, rfl⟩
      have FM := Lib.hid (fun t o s w h => Alloc20_any t o s m ti MM r2 h1 h2 hMM hr2 hh1 hh2 w h)
      by_cases hr0 : r = 0
      case neg =>
        have n1 : (r != 0) = true := by rw [bne_iff_ne]; exact hr0
        have hcase : r = r2 ∨ (r = 20 ∧ (r2 = 0 ∨ r2 = 4)) := by
          rw [hr2, hr, hm]
          exact aiE_seen rt (by rw [← hr]; exact hr0)
        clear hc rt hE hs1 hs2 hr hr0 hln hm hMM hh1 hh2 hr2
        rcases hcase with rfl | ⟨rfl, rfl | rfl⟩
        · have n2 : (r == r) = true := beq_self_eq_true r
          go_enter Try.func9, Try.ntmps9
          go_wp2_with fail
          refine (AL.out _).mono ?_
          rintro e wa1 ⟨rfl, b⟩
          replace B := B.trans (b.mono B.size); clear b
          go_wp2_with fail
          refine (G.out _ (H.out.below B)).mono ?_
          rintro e w2 ⟨rfl, rfl⟩
          go_wp2_with fail
          refine (CK.out _ (H.out.below B)).mono ?_
          rintro e wa2 ⟨rfl, b⟩
          replace B := B.trans (b.mono B.size); clear b
          go_wp2_with fail
          refine (CH.out _ (H.out.below B)).mono ?_
          rintro e wa3 ⟨y, rfl, o1, b⟩
          replace B := B.trans (b.mono B.size); clear b
          have q1 := o1.rd
          clear o1
          go_upto_region 5 with (fail)
          refine wp_gen (fun Wv => Bx Wv (wa3.heap.size) (35) (#[.int .i64 s1, .int .i64 s2]) ∧ Below wa3.heap.size wa3 Wv) ⟨((Bx.at_ (by simp))), ((Below.refl _ wa3).alloc (by simp <;> omega) _)⟩ ?_
          rintro wa4 ⟨g1, b⟩
          replace q1 := q1.below b; replace B := B.trans (b.mono B.size); clear b
          have c_g1 := g1.cell; have f_g1 := g1.free; have a_g1 := fun o => (g1.alloc o).cell; have d_g1 := fun o o2 => ((g1.alloc o).alloc o2).cell; have e_g1 := fun o => (g1.alloc o).free
          go_wp2_with fail
          refine (OM.out _ (H.out.below B)).mono ?_
          rintro e wa5 ⟨ta, oa, sa, rfl, om, b⟩
          replace q1 := q1.below b; try clear c_g1 f_g1 a_g1 d_g1 e_g1
          replace g1 := g1.below b; have c_g1 := g1.cell; have f_g1 := g1.free; have a_g1 := fun o => (g1.alloc o).cell; have d_g1 := fun o o2 => ((g1.alloc o).alloc o2).cell; have e_g1 := fun o => (g1.alloc o).free; replace B := B.trans (b.mono B.size); clear b
          have rm := om.rd
          obtain ⟨⟨tA, tn, tc, rfl⟩, ⟨oA, on, oc, rfl⟩, ⟨sA, sn, sc, rfl⟩⟩ := om.rd.forms2
          clear om
          go_upto_region 6 with (fail)
          refine wp_gen (fun Wv => Bx Wv (wa5.heap.size) (85) (#[.slice tA tn tc, .slice oA on oc, .slice sA sn sc]) ∧ Below wa5.heap.size wa5 Wv) ⟨((Bx.at_ (by simp))), ((Below.refl _ wa5).alloc (by simp <;> omega) _)⟩ ?_
          rintro wa6 ⟨g2, b⟩
          try clear c_g1 f_g1 a_g1 d_g1 e_g1
          replace g1 := g1.below b; have c_g1 := g1.cell; have f_g1 := g1.free; have a_g1 := fun o => (g1.alloc o).cell; have d_g1 := fun o o2 => ((g1.alloc o).alloc o2).cell; have e_g1 := fun o => (g1.alloc o).free; replace q1 := q1.below b; replace rm := rm.below b; replace B := B.trans (b.mono B.size); clear b
          have c_g2 := g2.cell; have f_g2 := g2.free; have a_g2 := fun o => (g2.alloc o).cell; have d_g2 := fun o o2 => ((g2.alloc o).alloc o2).cell; have e_g2 := fun o => (g2.alloc o).free
          go_wp2_with fail
          refine (FM.out _ _ _ _ rm).mono ?_
          rintro e wa7 ⟨tb, ob, sb, rfl, rm2, b⟩
          try clear c_g1 f_g1 a_g1 d_g1 e_g1
          replace g1 := g1.below b; have c_g1 := g1.cell; have f_g1 := g1.free; have a_g1 := fun o => (g1.alloc o).cell; have d_g1 := fun o o2 => ((g1.alloc o).alloc o2).cell; have e_g1 := fun o => (g1.alloc o).free; replace q1 := q1.below b; replace rm := rm.below b; try clear c_g2 f_g2 a_g2 d_g2 e_g2
          replace g2 := g2.below b; have c_g2 := g2.cell; have f_g2 := g2.free; have a_g2 := fun o => (g2.alloc o).cell; have d_g2 := fun o o2 => ((g2.alloc o).alloc o2).cell; have e_g2 := fun o => (g2.alloc o).free; replace B := B.trans (b.mono B.size); clear b
          obtain ⟨⟨uA, un, uc, rfl⟩, ⟨pA, pn, pc, rfl⟩, ⟨qA, qn, qc, rfl⟩⟩ := rm2.forms2
          clear c_g2 f_g2 a_g2 d_g2 e_g2
          clear g2
          go_upto_region 7 with (fail)
          refine wp_gen (fun Wv => Bx Wv (wa7.heap.size) (85) (#[.slice uA un uc, .slice pA pn pc, .slice qA qn qc]) ∧ Bx Wv (wa7.heap.size + 1) (35) (#[.int .i64 h1, .int .i64 h2]) ∧ Below wa7.heap.size wa7 Wv) ⟨(((Bx.at_ (by simp)).alloc _)), ((Bx.at_ (by simp))), (((Below.refl _ wa7).alloc (by simp <;> omega) _).alloc (by simp <;> omega) _)⟩ ?_
          rintro wa8 ⟨g3, g4, b⟩
          try clear c_g1 f_g1 a_g1 d_g1 e_g1
          replace g1 := g1.below b; have c_g1 := g1.cell; have f_g1 := g1.free; have a_g1 := fun o => (g1.alloc o).cell; have d_g1 := fun o o2 => ((g1.alloc o).alloc o2).cell; have e_g1 := fun o => (g1.alloc o).free; replace q1 := q1.below b; replace rm2 := rm2.below b; replace B := B.trans (b.mono B.size); clear b
          have c_g3 := g3.cell; have f_g3 := g3.free; have a_g3 := fun o => (g3.alloc o).cell; have d_g3 := fun o o2 => ((g3.alloc o).alloc o2).cell; have e_g3 := fun o => (g3.alloc o).free
          have c_g4 := g4.cell; have f_g4 := g4.free; have a_g4 := fun o => (g4.alloc o).cell; have d_g4 := fun o o2 => ((g4.alloc o).alloc o2).cell; have e_g4 := fun o => (g4.alloc o).free
          go_wp2
          go_ret
          exact ⟨rfl, B⟩
        · skip
          go_enter Try.func9, Try.ntmps9
          go_wp2_with fail
          refine (AL.out _).mono ?_
          rintro e wa1 ⟨rfl, b⟩
          replace B := B.trans (b.mono B.size); clear b
          go_wp2_with fail
          refine (G.out _ (H.out.below B)).mono ?_
          rintro e w2 ⟨rfl, rfl⟩
          go_wp2_with fail
          refine (CK.out _ (H.out.below B)).mono ?_
          rintro e wa2 ⟨rfl, b⟩
          replace B := B.trans (b.mono B.size); clear b
          go_wp2_with fail
          refine (CH.out _ (H.out.below B)).mono ?_
          rintro e wa3 ⟨y, rfl, o1, b⟩
          replace B := B.trans (b.mono B.size); clear b
          have q1 := o1.rd
          clear o1
          go_upto_region 5 with (fail)
          refine wp_gen (fun Wv => Bx Wv (wa3.heap.size) (35) (#[.int .i64 s1, .int .i64 s2]) ∧ Below wa3.heap.size wa3 Wv) ⟨((Bx.at_ (by simp))), ((Below.refl _ wa3).alloc (by simp <;> omega) _)⟩ ?_
          rintro wa4 ⟨g1, b⟩
          replace q1 := q1.below b; replace B := B.trans (b.mono B.size); clear b
          have c_g1 := g1.cell; have f_g1 := g1.free; have a_g1 := fun o => (g1.alloc o).cell; have d_g1 := fun o o2 => ((g1.alloc o).alloc o2).cell; have e_g1 := fun o => (g1.alloc o).free
          go_wp2_with fail
          refine (OM.out _ (H.out.below B)).mono ?_
          rintro e wa5 ⟨ta, oa, sa, rfl, om, b⟩
          replace q1 := q1.below b; try clear c_g1 f_g1 a_g1 d_g1 e_g1
          replace g1 := g1.below b; have c_g1 := g1.cell; have f_g1 := g1.free; have a_g1 := fun o => (g1.alloc o).cell; have d_g1 := fun o o2 => ((g1.alloc o).alloc o2).cell; have e_g1 := fun o => (g1.alloc o).free; replace B := B.trans (b.mono B.size); clear b
          have rm := om.rd
          obtain ⟨⟨tA, tn, tc, rfl⟩, ⟨oA, on, oc, rfl⟩, ⟨sA, sn, sc, rfl⟩⟩ := om.rd.forms2
          clear om
          go_upto_region 6 with (fail)
          refine wp_gen (fun Wv => Bx Wv (wa5.heap.size) (85) (#[.slice tA tn tc, .slice oA on oc, .slice sA sn sc]) ∧ Below wa5.heap.size wa5 Wv) ⟨((Bx.at_ (by simp))), ((Below.refl _ wa5).alloc (by simp <;> omega) _)⟩ ?_
          rintro wa6 ⟨g2, b⟩
          try clear c_g1 f_g1 a_g1 d_g1 e_g1
          replace g1 := g1.below b; have c_g1 := g1.cell; have f_g1 := g1.free; have a_g1 := fun o => (g1.alloc o).cell; have d_g1 := fun o o2 => ((g1.alloc o).alloc o2).cell; have e_g1 := fun o => (g1.alloc o).free; replace q1 := q1.below b; replace rm := rm.below b; replace B := B.trans (b.mono B.size); clear b
          have c_g2 := g2.cell; have f_g2 := g2.free; have a_g2 := fun o => (g2.alloc o).cell; have d_g2 := fun o o2 => ((g2.alloc o).alloc o2).cell; have e_g2 := fun o => (g2.alloc o).free
          go_wp2_with fail
          refine (FM.out _ _ _ _ rm).mono ?_
          rintro e wa7 ⟨tb, ob, sb, rfl, rm2, b⟩
          try clear c_g1 f_g1 a_g1 d_g1 e_g1
          replace g1 := g1.below b; have c_g1 := g1.cell; have f_g1 := g1.free; have a_g1 := fun o => (g1.alloc o).cell; have d_g1 := fun o o2 => ((g1.alloc o).alloc o2).cell; have e_g1 := fun o => (g1.alloc o).free; replace q1 := q1.below b; replace rm := rm.below b; try clear c_g2 f_g2 a_g2 d_g2 e_g2
          replace g2 := g2.below b; have c_g2 := g2.cell; have f_g2 := g2.free; have a_g2 := fun o => (g2.alloc o).cell; have d_g2 := fun o o2 => ((g2.alloc o).alloc o2).cell; have e_g2 := fun o => (g2.alloc o).free; replace B := B.trans (b.mono B.size); clear b
          obtain ⟨⟨uA, un, uc, rfl⟩, ⟨pA, pn, pc, rfl⟩, ⟨qA, qn, qc, rfl⟩⟩ := rm2.forms2
          clear c_g2 f_g2 a_g2 d_g2 e_g2
          clear g2
          go_upto_region 7 with (fail)
          refine wp_gen (fun Wv => Bx Wv (wa7.heap.size) (85) (#[.slice uA un uc, .slice pA pn pc, .slice qA qn qc]) ∧ Bx Wv (wa7.heap.size + 1) (35) (#[.int .i64 h1, .int .i64 h2]) ∧ Below wa7.heap.size wa7 Wv) ⟨(((Bx.at_ (by simp)).alloc _)), ((Bx.at_ (by simp))), (((Below.refl _ wa7).alloc (by simp <;> omega) _).alloc (by simp <;> omega) _)⟩ ?_
          rintro wa8 ⟨g3, g4, b⟩
          try clear c_g1 f_g1 a_g1 d_g1 e_g1
          replace g1 := g1.below b; have c_g1 := g1.cell; have f_g1 := g1.free; have a_g1 := fun o => (g1.alloc o).cell; have d_g1 := fun o o2 => ((g1.alloc o).alloc o2).cell; have e_g1 := fun o => (g1.alloc o).free; replace q1 := q1.below b; replace rm2 := rm2.below b; replace B := B.trans (b.mono B.size); clear b
          have c_g3 := g3.cell; have f_g3 := g3.free; have a_g3 := fun o => (g3.alloc o).cell; have d_g3 := fun o o2 => ((g3.alloc o).alloc o2).cell; have e_g3 := fun o => (g3.alloc o).free
          have c_g4 := g4.cell; have f_g4 := g4.free; have a_g4 := fun o => (g4.alloc o).cell; have d_g4 := fun o o2 => ((g4.alloc o).alloc o2).cell; have e_g4 := fun o => (g4.alloc o).free
          go_wp2
          go_ret
          exact ⟨rfl, B⟩
        · skip
          go_enter Try.func9, Try.ntmps9
          go_wp2_with fail
          refine (AL.out _).mono ?_
          rintro e wa1 ⟨rfl, b⟩
          replace B := B.trans (b.mono B.size); clear b
          go_wp2_with fail
          refine (G.out _ (H.out.below B)).mono ?_
          rintro e w2 ⟨rfl, rfl⟩
          go_wp2_with fail
          refine (CK.out _ (H.out.below B)).mono ?_
          rintro e wa2 ⟨rfl, b⟩
          replace B := B.trans (b.mono B.size); clear b
          go_wp2_with fail
          refine (CH.out _ (H.out.below B)).mono ?_
          rintro e wa3 ⟨y, rfl, o1, b⟩
          replace B := B.trans (b.mono B.size); clear b
          have q1 := o1.rd
          clear o1
          go_upto_region 5 with (fail)
          refine wp_gen (fun Wv => Bx Wv (wa3.heap.size) (35) (#[.int .i64 s1, .int .i64 s2]) ∧ Below wa3.heap.size wa3 Wv) ⟨((Bx.at_ (by simp))), ((Below.refl _ wa3).alloc (by simp <;> omega) _)⟩ ?_
          rintro wa4 ⟨g1, b⟩
          replace q1 := q1.below b; replace B := B.trans (b.mono B.size); clear b
          have c_g1 := g1.cell; have f_g1 := g1.free; have a_g1 := fun o => (g1.alloc o).cell; have d_g1 := fun o o2 => ((g1.alloc o).alloc o2).cell; have e_g1 := fun o => (g1.alloc o).free
          go_wp2_with fail
          refine (OM.out _ (H.out.below B)).mono ?_
          rintro e wa5 ⟨ta, oa, sa, rfl, om, b⟩
          replace q1 := q1.below b; try clear c_g1 f_g1 a_g1 d_g1 e_g1
          replace g1 := g1.below b; have c_g1 := g1.cell; have f_g1 := g1.free; have a_g1 := fun o => (g1.alloc o).cell; have d_g1 := fun o o2 => ((g1.alloc o).alloc o2).cell; have e_g1 := fun o => (g1.alloc o).free; replace B := B.trans (b.mono B.size); clear b
          have rm := om.rd
          obtain ⟨⟨tA, tn, tc, rfl⟩, ⟨oA, on, oc, rfl⟩, ⟨sA, sn, sc, rfl⟩⟩ := om.rd.forms2
          clear om
          go_upto_region 6 with (fail)
          refine wp_gen (fun Wv => Bx Wv (wa5.heap.size) (85) (#[.slice tA tn tc, .slice oA on oc, .slice sA sn sc]) ∧ Below wa5.heap.size wa5 Wv) ⟨((Bx.at_ (by simp))), ((Below.refl _ wa5).alloc (by simp <;> omega) _)⟩ ?_
          rintro wa6 ⟨g2, b⟩
          try clear c_g1 f_g1 a_g1 d_g1 e_g1
          replace g1 := g1.below b; have c_g1 := g1.cell; have f_g1 := g1.free; have a_g1 := fun o => (g1.alloc o).cell; have d_g1 := fun o o2 => ((g1.alloc o).alloc o2).cell; have e_g1 := fun o => (g1.alloc o).free; replace q1 := q1.below b; replace rm := rm.below b; replace B := B.trans (b.mono B.size); clear b
          have c_g2 := g2.cell; have f_g2 := g2.free; have a_g2 := fun o => (g2.alloc o).cell; have d_g2 := fun o o2 => ((g2.alloc o).alloc o2).cell; have e_g2 := fun o => (g2.alloc o).free
          go_wp2_with fail
          refine (FM.out _ _ _ _ rm).mono ?_
          rintro e wa7 ⟨tb, ob, sb, rfl, rm2, b⟩
          try clear c_g1 f_g1 a_g1 d_g1 e_g1
          replace g1 := g1.below b; have c_g1 := g1.cell; have f_g1 := g1.free; have a_g1 := fun o => (g1.alloc o).cell; have d_g1 := fun o o2 => ((g1.alloc o).alloc o2).cell; have e_g1 := fun o => (g1.alloc o).free; replace q1 := q1.below b; replace rm := rm.below b; try clear c_g2 f_g2 a_g2 d_g2 e_g2
          replace g2 := g2.below b; have c_g2 := g2.cell; have f_g2 := g2.free; have a_g2 := fun o => (g2.alloc o).cell; have d_g2 := fun o o2 => ((g2.alloc o).alloc o2).cell; have e_g2 := fun o => (g2.alloc o).free; replace B := B.trans (b.mono B.size); clear b
          obtain ⟨⟨uA, un, uc, rfl⟩, ⟨pA, pn, pc, rfl⟩, ⟨qA, qn, qc, rfl⟩⟩ := rm2.forms2
          clear c_g2 f_g2 a_g2 d_g2 e_g2
          clear g2
          go_upto_region 7 with (fail)
          refine wp_gen (fun Wv => Bx Wv (wa7.heap.size) (85) (#[.slice uA un uc, .slice pA pn pc, .slice qA qn qc]) ∧ Bx Wv (wa7.heap.size + 1) (35) (#[.int .i64 h1, .int .i64 h2]) ∧ Below wa7.heap.size wa7 Wv) ⟨(((Bx.at_ (by simp)).alloc _)), ((Bx.at_ (by simp))), (((Below.refl _ wa7).alloc (by simp <;> omega) _).alloc (by simp <;> omega) _)⟩ ?_
          rintro wa8 ⟨g3, g4, b⟩
          try clear c_g1 f_g1 a_g1 d_g1 e_g1
          replace g1 := g1.below b; have c_g1 := g1.cell; have f_g1 := g1.free; have a_g1 := fun o => (g1.alloc o).cell; have d_g1 := fun o o2 => ((g1.alloc o).alloc o2).cell; have e_g1 := fun o => (g1.alloc o).free; replace q1 := q1.below b; replace rm2 := rm2.below b; replace B := B.trans (b.mono B.size); clear b
          have c_g3 := g3.cell; have f_g3 := g3.free; have a_g3 := fun o => (g3.alloc o).cell; have d_g3 := fun o o2 => ((g3.alloc o).alloc o2).cell; have e_g3 := fun o => (g3.alloc o).free
          have c_g4 := g4.cell; have f_g4 := g4.free; have a_g4 := fun o => (g4.alloc o).cell; have d_g4 := fun o o2 => ((g4.alloc o).alloc o2).cell; have e_g4 := fun o => (g4.alloc o).free
          go_wp2
          go_ret
          exact ⟨rfl, B⟩
      case pos =>
        subst hr0
        obtain ⟨q, k, p, n, c, g0, b, t, PP, SS, rfl, al⟩ := Al.of hr.symm
        obtain ⟨l', hl'⟩ : ∃ x, x = made l (aiL l q) := ⟨_, rfl⟩
        rw [← hl'] at al
        obtain rfl : s1 = (k : Int) := by rw [hs1, al.hS]
        obtain rfl : s2 = g0 + 1 := by rw [hs2, al.hG]
        have hlE : made l E = l' := by rw [hE, hl']
        have ac := al.hc; have an := al.hn2; have ap := al.hp; have ak := al.hk; have ag := al.hg
        have all' := al.len
        obtain ⟨ar1, ar2⟩ := al.res
        obtain ⟨a1, a2, a3, rt', a5, _⟩ := al.after
        obtain ⟨f1, f2, f3⟩ := al.first
        obtain rfl : r2 = 0 := by rw [hr2, hm]; exact a1
        obtain rfl : h1 = (k : Int) := by rw [hh1, hm]; exact a2
        obtain rfl : h2 = g0 + 1 := by rw [hh2, hm]; exact a3
        obtain ⟨k9, g9, ad⟩ := Alld.of (m := m) (t := q) (by rw [hm]; exact a1)
        have MK := Lib.hid (fun ev w h he => Made_any v0 ev l E (by omega) w h he)
        rw [hlE] at MK
        obtain ⟨ff, hff⟩ : ∃ f, f = (objs PP).length := ⟨_, rfl⟩
        obtain ⟨LB, hLB⟩ : ∃ L, L = allL l' := ⟨_, rfl⟩
        obtain ⟨NB, hNB⟩ : ∃ N, N = LB.length := ⟨_, rfl⟩
        obtain ⟨NN, hNN⟩ : ∃ N, N = (O19 l).length := ⟨_, rfl⟩
        rw [← hff] at f1 f2 a5
        rw [← hNN] at f2 f3 a5
        rw [← hLB] at f1
        rw [← hm, ← hMM] at a5
        have hNB9 : NB ≤ 960 := by rw [hNB, hLB]; exact all_len rt'.al
        have HFF := Lib.hid f1
        have HNB := Lib.hid hNB
        have hmo : m.objs.length = NN := by rw [hm, hNN]; show ((O19 l).map _).length = _; rw [List.length_map]
        have hMO : MM.objs.length = NN + 1 := by rw [hMM, ad.len, hmo]
        have hMC : L20.chk MM = 0 := by rw [hMM]; exact ad.ok
        have HNO := Lib.hid (show (MM.objs.length : Int) = (NN : Int) + 1 by rw [hMO]; omega)
        have hren : Ren MM.objs.length (insN NN ff) := by rw [hMO]; exact ren_ins f2
        have nz : (((NN : Int) + 1) == 0) = false := by rw [beq_eq_false_iff_ne]; omega
        obtain ⟨MX, hMX⟩ : ∃ M, M = numM MM (insN NN ff) := ⟨_, rfl⟩
        have RV := Lib.hid (fun v w h => Resolve_any v l' k (g0 + 1) (p : Int) 0 ar2.symm ar1.symm w h)
        have OX := Lib.hid (fun v w h => OfM_any v l' MX 0 (by rw [hMX, ← a5, ofM, if_pos rt'.chk]) rt'.chk.symm w h)
        have AW := Lib.hid (fun v w h => AllW_any v l' LB 0 hLB rt'.al.symm w h)
        have CX := Lib.hid (fun v w h => Check19_any v l' 0 rt'.chk.symm w h)
        have C20 := Lib.hid (fun t o s w h => CheckR20_any t o s MM 0 hMC.symm w h)
        have NB9 := Lib.hid (fun t o s nv w h hn => Numbered_any t o s nv MM (insN NN ff) hMC (hren.ok hMC) w h hn)
        rw [← hMX] at NB9
        have SM := Lib.hid (fun t o s t2 o2 s2 w ha hb => Same20_any t o s t2 o2 s2 MX MX true (by simp) w ha hb)
        have nq : ∀ W, (binOp .neq 35 (.agg #[.int .i64 (k : Int), .int .i64 (g0 + 1)]) (.agg #[.int .i64 (k : Int), .int .i64 (g0 + 1)])).run Try.prog W = .ok (.bool false) W := fun W => by simp [go_sem]
        clear hc rt hE hs1 hs2 hr hlE hl' al ar1 ar2 rt' a1 a2 a3 a5 f1 hff hLB hNB hNN hm hMM hh1 hh2 hr2 hmo hMO hMC hren hMX ad ag all'
        go_enter Try.func9, Try.ntmps9
        go_wp2_with fail
        refine (AL.out _).mono ?_
        rintro e wa1 ⟨rfl, b⟩
        replace B := B.trans (b.mono B.size); clear b
        go_wp2_with fail
        refine (G.out _ (H.out.below B)).mono ?_
        rintro e w2 ⟨rfl, rfl⟩
        go_wp2_with fail
        refine (CK.out _ (H.out.below B)).mono ?_
        rintro e wa2 ⟨rfl, b⟩
        replace B := B.trans (b.mono B.size); clear b
        go_wp2_with fail
        refine (CH.out _ (H.out.below B)).mono ?_
        rintro e wa3 ⟨y, rfl, o1, b⟩
        replace B := B.trans (b.mono B.size); clear b
        have q1 := o1.rd
        clear o1
        go_upto_region 5 with (fail)
        refine wp_gen (fun Wv => Bx Wv (wa3.heap.size) (35) (#[.int .i64 (k : Int), .int .i64 (g0 + 1)]) ∧ Below wa3.heap.size wa3 Wv) ⟨((Bx.at_ (by simp))), ((Below.refl _ wa3).alloc (by simp <;> omega) _)⟩ ?_
        rintro wa4 ⟨g1, b⟩
        replace q1 := q1.below b; replace B := B.trans (b.mono B.size); clear b
        have c_g1 := g1.cell; have f_g1 := g1.free; have a_g1 := fun o => (g1.alloc o).cell; have d_g1 := fun o o2 => ((g1.alloc o).alloc o2).cell; have e_g1 := fun o => (g1.alloc o).free
        go_wp2_with fail
        refine (OM.out _ (H.out.below B)).mono ?_
        rintro e wa5 ⟨ta, oa, sa, rfl, om, b⟩
        replace q1 := q1.below b; try clear c_g1 f_g1 a_g1 d_g1 e_g1
        replace g1 := g1.below b; have c_g1 := g1.cell; have f_g1 := g1.free; have a_g1 := fun o => (g1.alloc o).cell; have d_g1 := fun o o2 => ((g1.alloc o).alloc o2).cell; have e_g1 := fun o => (g1.alloc o).free; replace B := B.trans (b.mono B.size); clear b
        have rm := om.rd
        obtain ⟨⟨tA, tn, tc, rfl⟩, ⟨oA, on, oc, rfl⟩, ⟨sA, sn, sc, rfl⟩⟩ := om.rd.forms2
        clear om
        go_upto_region 6 with (fail)
        refine wp_gen (fun Wv => Bx Wv (wa5.heap.size) (85) (#[.slice tA tn tc, .slice oA on oc, .slice sA sn sc]) ∧ Below wa5.heap.size wa5 Wv) ⟨((Bx.at_ (by simp))), ((Below.refl _ wa5).alloc (by simp <;> omega) _)⟩ ?_
        rintro wa6 ⟨g2, b⟩
        try clear c_g1 f_g1 a_g1 d_g1 e_g1
        replace g1 := g1.below b; have c_g1 := g1.cell; have f_g1 := g1.free; have a_g1 := fun o => (g1.alloc o).cell; have d_g1 := fun o o2 => ((g1.alloc o).alloc o2).cell; have e_g1 := fun o => (g1.alloc o).free; replace q1 := q1.below b; replace rm := rm.below b; replace B := B.trans (b.mono B.size); clear b
        have c_g2 := g2.cell; have f_g2 := g2.free; have a_g2 := fun o => (g2.alloc o).cell; have d_g2 := fun o o2 => ((g2.alloc o).alloc o2).cell; have e_g2 := fun o => (g2.alloc o).free
        go_wp2_with fail
        refine (FM.out _ _ _ _ rm).mono ?_
        rintro e wa7 ⟨tb, ob, sb, rfl, rm2, b⟩
        try clear c_g1 f_g1 a_g1 d_g1 e_g1
        replace g1 := g1.below b; have c_g1 := g1.cell; have f_g1 := g1.free; have a_g1 := fun o => (g1.alloc o).cell; have d_g1 := fun o o2 => ((g1.alloc o).alloc o2).cell; have e_g1 := fun o => (g1.alloc o).free; replace q1 := q1.below b; replace rm := rm.below b; try clear c_g2 f_g2 a_g2 d_g2 e_g2
        replace g2 := g2.below b; have c_g2 := g2.cell; have f_g2 := g2.free; have a_g2 := fun o => (g2.alloc o).cell; have d_g2 := fun o o2 => ((g2.alloc o).alloc o2).cell; have e_g2 := fun o => (g2.alloc o).free; replace B := B.trans (b.mono B.size); clear b
        obtain ⟨⟨uA, un, uc, rfl⟩, ⟨pA, pn, pc, rfl⟩, ⟨qA, qn, qc, rfl⟩⟩ := rm2.forms2
        clear c_g2 f_g2 a_g2 d_g2 e_g2
        clear g2
        go_upto_region 7 with (fail)
        refine wp_gen (fun Wv => Bx Wv (wa7.heap.size) (85) (#[.slice uA un uc, .slice pA pn pc, .slice qA qn qc]) ∧ Bx Wv (wa7.heap.size + 1) (35) (#[.int .i64 (k : Int), .int .i64 (g0 + 1)]) ∧ Below wa7.heap.size wa7 Wv) ⟨(((Bx.at_ (by simp)).alloc _)), ((Bx.at_ (by simp))), (((Below.refl _ wa7).alloc (by simp <;> omega) _).alloc (by simp <;> omega) _)⟩ ?_
        rintro wa8 ⟨g3, g4, b⟩
        try clear c_g1 f_g1 a_g1 d_g1 e_g1
        replace g1 := g1.below b; have c_g1 := g1.cell; have f_g1 := g1.free; have a_g1 := fun o => (g1.alloc o).cell; have d_g1 := fun o o2 => ((g1.alloc o).alloc o2).cell; have e_g1 := fun o => (g1.alloc o).free; replace q1 := q1.below b; replace rm2 := rm2.below b; replace B := B.trans (b.mono B.size); clear b
        have c_g3 := g3.cell; have f_g3 := g3.free; have a_g3 := fun o => (g3.alloc o).cell; have d_g3 := fun o o2 => ((g3.alloc o).alloc o2).cell; have e_g3 := fun o => (g3.alloc o).free
        have c_g4 := g4.cell; have f_g4 := g4.free; have a_g4 := fun o => (g4.alloc o).cell; have d_g4 := fun o o2 => ((g4.alloc o).alloc o2).cell; have e_g4 := fun o => (g4.alloc o).free
        go_wp2_with fail
        refine (MK.out _ _ (H.out.below B) q1).mono ?_
        rintro e wa9 ⟨z, rfl, oz, b⟩
        try clear c_g1 f_g1 a_g1 d_g1 e_g1
        replace g1 := g1.below b; have c_g1 := g1.cell; have f_g1 := g1.free; have a_g1 := fun o => (g1.alloc o).cell; have d_g1 := fun o o2 => ((g1.alloc o).alloc o2).cell; have e_g1 := fun o => (g1.alloc o).free; replace q1 := q1.below b; replace rm2 := rm2.below b; try clear c_g3 f_g3 a_g3 d_g3 e_g3
        replace g3 := g3.below b; have c_g3 := g3.cell; have f_g3 := g3.free; have a_g3 := fun o => (g3.alloc o).cell; have d_g3 := fun o o2 => ((g3.alloc o).alloc o2).cell; have e_g3 := fun o => (g3.alloc o).free; try clear c_g4 f_g4 a_g4 d_g4 e_g4
        replace g4 := g4.below b; have c_g4 := g4.cell; have f_g4 := g4.free; have a_g4 := fun o => (g4.alloc o).cell; have d_g4 := fun o o2 => ((g4.alloc o).alloc o2).cell; have e_g4 := fun o => (g4.alloc o).free; replace B := B.trans (b.mono B.size); clear b
        have rz := oz.rd
        clear oz q1 rm
        go_wp2_with fail
        refine (OX.out _ _ rz).mono ?_
        rintro e wa10 ⟨tx, ox, sx, rfl, om, b⟩
        try clear c_g1 f_g1 a_g1 d_g1 e_g1
        replace g1 := g1.below b; have c_g1 := g1.cell; have f_g1 := g1.free; have a_g1 := fun o => (g1.alloc o).cell; have d_g1 := fun o o2 => ((g1.alloc o).alloc o2).cell; have e_g1 := fun o => (g1.alloc o).free; try clear c_g3 f_g3 a_g3 d_g3 e_g3
        replace g3 := g3.below b; have c_g3 := g3.cell; have f_g3 := g3.free; have a_g3 := fun o => (g3.alloc o).cell; have d_g3 := fun o o2 => ((g3.alloc o).alloc o2).cell; have e_g3 := fun o => (g3.alloc o).free; try clear c_g4 f_g4 a_g4 d_g4 e_g4
        replace g4 := g4.below b; have c_g4 := g4.cell; have f_g4 := g4.free; have a_g4 := fun o => (g4.alloc o).cell; have d_g4 := fun o o2 => ((g4.alloc o).alloc o2).cell; have e_g4 := fun o => (g4.alloc o).free; replace rm2 := rm2.below b; replace rz := rz.below b; replace B := B.trans (b.mono B.size); clear b
        have rx := om.rd
        obtain ⟨⟨txA, txn, txc, rfl⟩, ⟨oxA, oxn, oxc, rfl⟩, ⟨sxA, sxn, sxc, rfl⟩⟩ := om.rd.forms2
        clear om
        go_upto_region 11 with (fail)
        refine wp_gen (fun Wv => Bx Wv (wa10.heap.size) (85) (#[.slice txA txn txc, .slice oxA oxn oxc, .slice sxA sxn sxc]) ∧ Below wa10.heap.size wa10 Wv) ⟨((Bx.at_ (by simp))), ((Below.refl _ wa10).alloc (by simp <;> omega) _)⟩ ?_
        rintro wa11 ⟨g5, b⟩
        try clear c_g1 f_g1 a_g1 d_g1 e_g1
        replace g1 := g1.below b; have c_g1 := g1.cell; have f_g1 := g1.free; have a_g1 := fun o => (g1.alloc o).cell; have d_g1 := fun o o2 => ((g1.alloc o).alloc o2).cell; have e_g1 := fun o => (g1.alloc o).free; try clear c_g3 f_g3 a_g3 d_g3 e_g3
        replace g3 := g3.below b; have c_g3 := g3.cell; have f_g3 := g3.free; have a_g3 := fun o => (g3.alloc o).cell; have d_g3 := fun o o2 => ((g3.alloc o).alloc o2).cell; have e_g3 := fun o => (g3.alloc o).free; try clear c_g4 f_g4 a_g4 d_g4 e_g4
        replace g4 := g4.below b; have c_g4 := g4.cell; have f_g4 := g4.free; have a_g4 := fun o => (g4.alloc o).cell; have d_g4 := fun o o2 => ((g4.alloc o).alloc o2).cell; have e_g4 := fun o => (g4.alloc o).free; replace rm2 := rm2.below b; replace rz := rz.below b; replace rx := rx.below b; replace B := B.trans (b.mono B.size); clear b
        have c_g5 := g5.cell; have f_g5 := g5.free; have a_g5 := fun o => (g5.alloc o).cell; have d_g5 := fun o o2 => ((g5.alloc o).alloc o2).cell; have e_g5 := fun o => (g5.alloc o).free
        go_wp2_with fail
        refine (RV.out _ _ rz).mono ?_
        rintro e wa12 ⟨rfl, b⟩
        try clear c_g1 f_g1 a_g1 d_g1 e_g1
        replace g1 := g1.below b; have c_g1 := g1.cell; have f_g1 := g1.free; have a_g1 := fun o => (g1.alloc o).cell; have d_g1 := fun o o2 => ((g1.alloc o).alloc o2).cell; have e_g1 := fun o => (g1.alloc o).free; try clear c_g3 f_g3 a_g3 d_g3 e_g3
        replace g3 := g3.below b; have c_g3 := g3.cell; have f_g3 := g3.free; have a_g3 := fun o => (g3.alloc o).cell; have d_g3 := fun o o2 => ((g3.alloc o).alloc o2).cell; have e_g3 := fun o => (g3.alloc o).free; try clear c_g4 f_g4 a_g4 d_g4 e_g4
        replace g4 := g4.below b; have c_g4 := g4.cell; have f_g4 := g4.free; have a_g4 := fun o => (g4.alloc o).cell; have d_g4 := fun o o2 => ((g4.alloc o).alloc o2).cell; have e_g4 := fun o => (g4.alloc o).free; replace rm2 := rm2.below b; replace rz := rz.below b; replace rx := rx.below b; try clear c_g5 f_g5 a_g5 d_g5 e_g5
        replace g5 := g5.below b; have c_g5 := g5.cell; have f_g5 := g5.free; have a_g5 := fun o => (g5.alloc o).cell; have d_g5 := fun o o2 => ((g5.alloc o).alloc o2).cell; have e_g5 := fun o => (g5.alloc o).free; replace B := B.trans (b.mono B.size); clear b
        go_wp2_with fail
        refine (AW.out _ _ rz).mono ?_
        rintro e wa13 ⟨xk, rfl, ok, b⟩
        try clear c_g1 f_g1 a_g1 d_g1 e_g1
        replace g1 := g1.below b; have c_g1 := g1.cell; have f_g1 := g1.free; have a_g1 := fun o => (g1.alloc o).cell; have d_g1 := fun o o2 => ((g1.alloc o).alloc o2).cell; have e_g1 := fun o => (g1.alloc o).free; try clear c_g3 f_g3 a_g3 d_g3 e_g3
        replace g3 := g3.below b; have c_g3 := g3.cell; have f_g3 := g3.free; have a_g3 := fun o => (g3.alloc o).cell; have d_g3 := fun o o2 => ((g3.alloc o).alloc o2).cell; have e_g3 := fun o => (g3.alloc o).free; try clear c_g4 f_g4 a_g4 d_g4 e_g4
        replace g4 := g4.below b; have c_g4 := g4.cell; have f_g4 := g4.free; have a_g4 := fun o => (g4.alloc o).cell; have d_g4 := fun o o2 => ((g4.alloc o).alloc o2).cell; have e_g4 := fun o => (g4.alloc o).free; replace rm2 := rm2.below b; replace rz := rz.below b; replace rx := rx.below b; try clear c_g5 f_g5 a_g5 d_g5 e_g5
        replace g5 := g5.below b; have c_g5 := g5.cell; have f_g5 := g5.free; have a_g5 := fun o => (g5.alloc o).cell; have d_g5 := fun o o2 => ((g5.alloc o).alloc o2).cell; have e_g5 := fun o => (g5.alloc o).free; replace B := B.trans (b.mono B.size); clear b
        have rk : Blks wa13 xk LB := ok.rd
        clear ok
        go_wp2_with fail
        refine (CX.out _ _ rz).mono ?_
        rintro e wa14 ⟨rfl, b⟩
        try clear c_g1 f_g1 a_g1 d_g1 e_g1
        replace g1 := g1.below b; have c_g1 := g1.cell; have f_g1 := g1.free; have a_g1 := fun o => (g1.alloc o).cell; have d_g1 := fun o o2 => ((g1.alloc o).alloc o2).cell; have e_g1 := fun o => (g1.alloc o).free; try clear c_g3 f_g3 a_g3 d_g3 e_g3
        replace g3 := g3.below b; have c_g3 := g3.cell; have f_g3 := g3.free; have a_g3 := fun o => (g3.alloc o).cell; have d_g3 := fun o o2 => ((g3.alloc o).alloc o2).cell; have e_g3 := fun o => (g3.alloc o).free; try clear c_g4 f_g4 a_g4 d_g4 e_g4
        replace g4 := g4.below b; have c_g4 := g4.cell; have f_g4 := g4.free; have a_g4 := fun o => (g4.alloc o).cell; have d_g4 := fun o o2 => ((g4.alloc o).alloc o2).cell; have e_g4 := fun o => (g4.alloc o).free; try clear c_g5 f_g5 a_g5 d_g5 e_g5
        replace g5 := g5.below b; have c_g5 := g5.cell; have f_g5 := g5.free; have a_g5 := fun o => (g5.alloc o).cell; have d_g5 := fun o o2 => ((g5.alloc o).alloc o2).cell; have e_g5 := fun o => (g5.alloc o).free; replace rm2 := rm2.below b; replace rz := rz.below b; replace rx := rx.below b; replace rk := rk.below b; replace B := B.trans (b.mono B.size); clear b
        go_wp2_with fail
        refine (C20.out _ _ _ _ rm2).mono ?_
        rintro e wa15 ⟨rfl, b⟩
        try clear c_g1 f_g1 a_g1 d_g1 e_g1
        replace g1 := g1.below b; have c_g1 := g1.cell; have f_g1 := g1.free; have a_g1 := fun o => (g1.alloc o).cell; have d_g1 := fun o o2 => ((g1.alloc o).alloc o2).cell; have e_g1 := fun o => (g1.alloc o).free; try clear c_g3 f_g3 a_g3 d_g3 e_g3
        replace g3 := g3.below b; have c_g3 := g3.cell; have f_g3 := g3.free; have a_g3 := fun o => (g3.alloc o).cell; have d_g3 := fun o o2 => ((g3.alloc o).alloc o2).cell; have e_g3 := fun o => (g3.alloc o).free; try clear c_g4 f_g4 a_g4 d_g4 e_g4
        replace g4 := g4.below b; have c_g4 := g4.cell; have f_g4 := g4.free; have a_g4 := fun o => (g4.alloc o).cell; have d_g4 := fun o o2 => ((g4.alloc o).alloc o2).cell; have e_g4 := fun o => (g4.alloc o).free; try clear c_g5 f_g5 a_g5 d_g5 e_g5
        replace g5 := g5.below b; have c_g5 := g5.cell; have f_g5 := g5.free; have a_g5 := fun o => (g5.alloc o).cell; have d_g5 := fun o o2 => ((g5.alloc o).alloc o2).cell; have e_g5 := fun o => (g5.alloc o).free; replace rm2 := rm2.below b; replace rz := rz.below b; replace rx := rx.below b; replace rk := rk.below b; replace B := B.trans (b.mono B.size); clear b
        have lo := rm2.o.len
        rw [HNO.out] at lo
        have lk := rk.len
        rw [← HNB.out] at lk
        have HG := Lib.hid (And.intro g3 (And.intro g5 (And.intro rm2 (And.intro rx (And.intro rk B)))))
        clear c_g1 f_g1 a_g1 d_g1 e_g1 c_g4 f_g4 a_g4 d_g4 e_g4 c_g5 f_g5 a_g5 d_g5 e_g5
        clear g1 g4 g5 rz rx
        go_upto_region 16 with (fail)
        clear c_g3 f_g3 a_g3 d_g3 e_g3
        clear g3 rm2 rk B nq
        go_wp2
        go_loopg [21, 22] NB (fun g fv i wr => ∃ j c : Nat, j ≤ NB ∧ g = NB - j ∧ i = .int .i64 j ∧ fv = .int .i64 c ∧ c ≤ j ∧ Hid (c = cntF (p : Int) (LB.take j)) ∧ wa15 = wr)
        case atStart => exact ⟨0, 0, by omega, by omega, rfl, rfl, by omega, Lib.hid rfl, rfl⟩
        case round =>
          obtain ⟨j, c, hj, rfl, rfl, rfl, hcj, hcc, rfl⟩ := hrel
          by_cases hlt : j < NB
          · obtain ⟨bb, oo, d, id, m4, m5, m6, n7, n8, n9, hd, _⟩ := HG.out.2.2.2.2.1.at_ (k := j) (by rw [← HNB.out]; exact hlt)
            clear m5 n7 n8 n9
            have hst := cntF_step (p := (p : Int)) hd.out
            rw [← hcc.out] at hst
            have hcase : ((d.kind == 1) = true ∧ decide (d.at_ < (p : Int)) = true) ∨ (((d.kind == 1) = false ∨ ((d.kind == 1) = true ∧ decide (d.at_ < (p : Int)) = false)) ∧ cntF (p : Int) (LB.take (j + 1)) = c) := by
              by_cases h1 : d.kind = 1
              · by_cases h2 : d.at_ < (p : Int)
                · exact .inl ⟨by rw [beq_iff_eq]; exact h1, decide_eq_true h2⟩
                · exact .inr ⟨.inr ⟨by rw [beq_iff_eq]; exact h1, decide_eq_false h2⟩, by rw [hst, if_neg (by unfold isO; rw [decide_eq_false h2, Bool.and_false]; simp)]; omega⟩
              · exact .inr ⟨.inl (by rw [beq_eq_false_iff_ne]; exact h1), by rw [hst, if_neg (by unfold isO; rw [decide_eq_false h1, Bool.false_and]; simp)]; omega⟩
            rcases hcase with ⟨t1, t2⟩ | ⟨t1 | ⟨t1, t2⟩, hsame⟩
            · have HC := Lib.hid (show c + 1 = cntF (p : Int) (LB.take (j + 1)) by
                rw [hst, if_pos]
                unfold isO
                rw [beq_iff_eq] at t1
                rw [t1, t2]; rfl)
              clear hst hd
              go_wp2
              clear m4 m6
              go_roundg (NB - (j + 1))
              case measure => omega
              case rel => exact ⟨j + 1, c + 1, by omega, rfl, by go_num, by go_num, by omega, HC, rfl⟩
            · have HC := Lib.hid hsame.symm
              clear hst hd hsame
              go_wp2
              clear m4 m6
              go_roundg (NB - (j + 1))
              case measure => omega
              case rel => exact ⟨j + 1, c, by omega, rfl, by go_num, rfl, by omega, HC, rfl⟩
            · have HC := Lib.hid hsame.symm
              clear hst hd hsame
              go_wp2
              clear m4 m6
              go_roundg (NB - (j + 1))
              case measure => omega
              case rel => exact ⟨j + 1, c, by omega, rfl, by go_num, rfl, by omega, HC, rfl⟩
          · obtain rfl : j = NB := by omega
            obtain rfl : ff = c := by
              have h1 := hcc.out
              rw [HNB.out, List.take_length] at h1
              rw [h1, HFF.out]
            clear hlt hj hcj hcc
            have c3 := HG.out.1.cell
            go_wp2
            clear c3
            go_loopg [23, 24] NN (fun g nv i wr => ∃ j : Nat, j ≤ NN ∧ g = NN - j ∧ i = .int .i64 j ∧ Hid (OwnI wr wa15.heap.size 3 nv (insJ ff j) ∧ Below wa15.heap.size wa15 wr))
            case atStart => exact ⟨0, by omega, by omega, rfl, Lib.hid ⟨OwnI.nil _ _ _, Below.refl _ _⟩⟩
            case round =>
              obtain ⟨j, hj, rfl, rfl, hh⟩ := hrel
              have HO := Lib.hid hh.out.1
              have HBb := Lib.hid hh.out.2
              have c3 := (HG.out.1.below HBb.out).cell
              have HL := Lib.hid (show (insJ ff j).length = j by simp [insJ])
              have hx : ∀ x : Int, (if j < ff then (j : Int) else (j : Int) + 1) = x → (insJ ff j).map i64 ++ [i64 x] = (insJ ff (j + 1)).map i64 := fun x e => by rw [insJ_succ, e, List.map_append]; rfl
              clear hh
              by_cases hlt : j < NN
              · by_cases hjf : j < ff
                · have HX := Lib.hid (hx (j : Int) (by rw [if_pos hjf]))
                  have t1 : decide ((j : Int) < (ff : Int)) = true := decide_eq_true (by omega)
                  clear hx
                  go_wp2_with (at_builtin; refine wpList_append (by rfl) rfl rfl rfl Try.underlying91 info_int rfl (by omega) (by exact own_below HO.out ((Below.refl _ wr).alloc (Nat.le_refl _) _)) (by exact lit_rd) (by simp [Value.oneCell']) (by rw [HL.out]; omega) (by rw [HL.out]; omega) (by exact HBb.out.alloc HBb.out.size _) (Nat.le_refl _) ?_; intro v1 w1 hown1 hbel1 hv1; clear hv1)
                  clear c3
                  go_roundg (NN - (j + 1))
                  case measure => omega
                  case rel => exact ⟨j + 1, by omega, rfl, by go_num, Lib.hid ⟨OwnI.of hown1 HX.out, hbel1⟩⟩
                · have HX := Lib.hid (hx ((j : Int) + 1) (by rw [if_neg hjf]))
                  have t1 : decide ((j : Int) < (ff : Int)) = false := decide_eq_false (by omega)
                  have wj : IntKind.i64.wrap ((j : Int) + 1) = (j : Int) + 1 := IntWalk.i64_in _ (by omega)
                  clear hx
                  go_wp2_with (at_builtin; refine wpList_append (by rfl) rfl rfl rfl Try.underlying91 info_int rfl (by omega) (by exact own_below HO.out ((Below.refl _ wr).alloc (Nat.le_refl _) _)) (by exact lit_rd) (by simp [Value.oneCell']) (by rw [HL.out]; omega) (by rw [HL.out]; omega) (by exact HBb.out.alloc HBb.out.size _) (Nat.le_refl _) ?_; intro v1 w1 hown1 hbel1 hv1; clear hv1)
                  clear c3
                  go_roundg (NN - (j + 1))
                  case measure => omega
                  case rel => exact ⟨j + 1, by omega, rfl, by go_num, Lib.hid ⟨OwnI.of hown1 HX.out, hbel1⟩⟩
              · obtain rfl : j = NN := by omega
                clear hx
                go_wp2_with (at_builtin; refine wpList_append (by rfl) rfl rfl rfl Try.underlying91 info_int rfl (by omega) (by exact own_below HO.out ((Below.refl _ wr).alloc (Nat.le_refl _) _)) (by exact lit_rd) (by simp [Value.oneCell']) (by rw [HL.out]; omega) (by rw [HL.out]; omega) (by exact HBb.out.alloc HBb.out.size _) (Nat.le_refl _) ?_; intro v1 w1 hown1 hbel1 hv1; clear hv1)
                have oI : OwnI w1 wa15.heap.size 3 v1 (insN j ff) := OwnI.of hown1 (by rw [insN_eq, List.map_append]; rfl)
                clear hown1 HO HBb HL c3
                go_upto_region 29 with (fail)
                obtain ⟨g3, g5, rm2, rx, rk, B⟩ := HG.out
                have g3' := g3.below hbel1
                have g5' := g5.below hbel1
                have rm3 := rm2.below hbel1
                have rx3 := rx.below hbel1
                have B3 := B.trans (hbel1.mono B.size)
                have hB3 := B3.size
                clear g3 g5 rm2 rx rk B
                have c_3 := fun x : Fut w1 => (g3'.below x.h).cell
                have c_5 := fun x : Fut w1 => (g5'.below x.h).cell
                have t9 : decide ((ff : Int) < ((j : Int) + 1)) = true := decide_eq_true (by omega)
                refine wp_region_f1 13 12 (fun v => ∃ t o s, v = .agg #[t, o, s]) (fun v W => ∃ t o s, v = .agg #[t, o, s] ∧ Mod W t o s MX) ⟨_, undef, undef, undef, rfl⟩ (fun v W W' ⟨t, o, s, h1, h2⟩ b => ⟨t, o, s, h1, h2.below b⟩) (by kernel_rfl) (by kernel_rfl) (by kernel_rfl) ?_
                intro gg hv1
                obtain ⟨t9, o9, s9, hy1⟩ := hv1
                simp only [List.take_succ_cons, List.take_zero, List.drop_succ_cons, List.drop_zero]
                iterate 5 (refine wpH_read0 rfl rfl ?_; go_big_quiet_step (fail); refine wpQuiet_nil ?_)
                refine wpH_pure rfl rfl (v := .int .i64 ((j : Int) + 1)) (fun W => by simp [execOp, resolve, invoke, builtin, Act.eval, go_sem, lo]) ?_
                simp only [Act.put, List.setIfInBounds_toArray, List.set_cons_zero, List.set_cons_succ]
                iterate 6 (refine wpH_read0 rfl rfl ?_; go_big_quiet_step (fail); refine wpQuiet_nil ?_)
                refine wpH_new rfl rfl (TS.call (av := #[.agg #[.slice uA un uc, .slice pA pn pc, .slice qA qn qc], v1]) (by simp [Act.eval]) (fun W => enter_numbered _ _ W) ?_) ?_
                · intro W hW _
                  refine (NB9.out _ _ _ _ W (rm3.below hW) (oI.below hW).rd).mono ?_
                  rintro e W' ⟨t, o, s, rfl, om, bb⟩
                  exact ⟨_, rfl, fun _ => ⟨t, o, s, rfl⟩, bb, fun g' hg' _ => fun _ => ⟨t, o, s, hg', om.rd⟩⟩
                rw [hy1]
                simp only [Act.put, List.setIfInBounds_toArray, List.set_cons_zero, List.set_cons_succ]
                refine wpH_nil ?_
                intro W2 bW o1
                obtain ⟨t8, o8, s8, e1, r9⟩ := o1
                try rw [hy1] at e1
                injection e1 with e1
                obtain ⟨rfl, rfl, rfl⟩ : t9 = t8 ∧ o9 = o8 ∧ s9 = s8 := by injection e1 with e1; injection e1 with e2 e3; injection e3 with e3 e4; injection e4 with e4 e5; exact ⟨e2, e3, e4⟩
                replace B := B3.trans (bW.mono hB3)
                have rx4 := rx3.below bW
                clear g3' g5' rm3 rx3 B3 hB3 c_3 c_5 bW hy1 e1 oI hbel1
                go_wp2_with fail
                refine (SM.out _ _ _ _ _ _ _ rx4 r9).mono ?_
                rintro e wa16 ⟨rfl, b⟩
                replace B := B.trans (b.mono B.size); clear b
                go_wp2
                go_ret
                exact ⟨rfl, B⟩
end Go.Proofs.Ytmbokdnndlnjkaa
