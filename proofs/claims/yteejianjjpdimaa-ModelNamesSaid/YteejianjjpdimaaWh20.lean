/- The law ModelNames holds: the limits and errors of layer 20. -/
import Derived.Test.YteejianjjpdimaaMNr
import Derived.Deep.CutBlock
set_option linter.unusedVariables false
set_option linter.unusedSimpArgs false
namespace Go.Proofs.Yteejianjjpdimaa
open Go.RowKit L02 L13 L18 L20

theorem unhid {p : Prop} (h : Hid p) : p := h.out
set_option maxRecDepth 100000 in
set_option maxHeartbeats 16000000 in
theorem ModelNames_walk (w : World) :
    Calls Try.prog 4 #[] w fun e w' => e = .returned (.bool true) ∧ Below w.heap.size w w' := by
  have B : Below w.heap.size w w := Below.refl _ _
  go_enter Try.func4, Try.ntmps4
  go_wp2_with fail
  refine (example20_any _).mono ?_
  rintro e wa1 ⟨t0, o0, s0, rfl, om, b⟩
  replace B := B.trans (b.mono B.size); clear b
  obtain ⟨⟨t0A, t0n, t0c, rfl⟩, ⟨o0A, o0n, o0c, rfl⟩, ⟨s0A, s0n, s0c, rfl⟩⟩ := om.rd.forms
  have hz0 := B.size
  go_upto_region 2 with (fail)
  refine wp_gen (fun Wv => Bx Wv (wa1.heap.size) (26) (#[.slice t0A t0n t0c, .slice o0A o0n o0c, .slice s0A s0n s0c]) ∧ Below wa1.heap.size wa1 Wv) ⟨((Bx.at_ (by simp))), ((Below.refl _ wa1).alloc (by simp <;> omega) _)⟩ ?_
  rintro wa2 ⟨g1, b⟩
  replace om := om.below b; replace B := B.trans (b.mono B.size); clear b
  have c_g1 := g1.cell; have f_g1 := g1.free; have a_g1 := fun o => (g1.alloc o).cell; have d_g1 := fun o o2 => ((g1.alloc o).alloc o2).cell; have e_g1 := fun o => (g1.alloc o).free
  generalize htv : Value.slice t0A t0n t0c = tv at *
  obtain ⟨ys, hys, hT, hTb⟩ := om.t
  match ys, hys with
  | [y0], _ =>
    have hT1 : wa2.ownsRow w.heap.size 41 1 tv 1 [y0] := hT
    have hTT := Lib.hid hT1
    clear hT hT1
    go_wp2_with (at_builtin; refine unhid ?_)
    refine Lib.hid ?_
    have hLit : Rd ((wa2.alloc (.cells #[.int .u8 2, .int .u8 1] 5)).alloc (.cells #[.slice (some ⟨wa2.heap.size, 0, none⟩) 2 2] 41)) 1 (.slice (some ⟨wa2.heap.size + 1, 0, none⟩) 1 1) 1 [.slice (some ⟨wa2.heap.size, 0, none⟩) 2 2] := by
      have := lit_rd (w := wa2.alloc (.cells #[.int .u8 2, .int .u8 1] 5)) (u := .slice (some ⟨wa2.heap.size, 0, none⟩) 2 2) (e := 41)
      simpa using this
    have hBb : Below wa2.heap.size wa2 ((wa2.alloc (.cells #[.int .u8 2, .int .u8 1] 5)).alloc (.cells #[.slice (some ⟨wa2.heap.size, 0, none⟩) 2 2] 41)) := ((Below.refl _ wa2).alloc (Nat.le_refl _) _).alloc (by simp) _
    refine wpList_append (by rfl) rfl rfl rfl Try.underlying22 info_typs rfl (by omega) (own_below hTT.out hBb) hLit (by simp [Value.oneCell']) (by omega) (by omega) (B.trans (hBb.mono B.size)) (Nat.le_refl _) ?_
    intro v1 w1 hown1 hbel1 hgr1
    have hA : Bx ((wa2.alloc (.cells #[.int .u8 2, .int .u8 1] 5)).alloc (.cells #[.slice (some ⟨wa2.heap.size, 0, none⟩) 2 2] 41)) wa2.heap.size 5 #[.int .u8 2, .int .u8 1] := (Bx.new _ _ _).alloc _
    have omN := nm_push om hBb hTT.out (hTb 0 y0 [3] rfl rfl) hA B.size hgr1 hown1
    have g1V := (g1.below hBb)
    have g1w := g1V.grown hgr1 (own_not_bx (own_below hTT.out hBb) g1V (by decide))
    obtain ⟨v1A, v1c, rfl⟩ := own_form' hown1
    clear g1 c_g1 f_g1 a_g1 d_g1 e_g1 hgr1 hown1 hLit hBb hA g1V om hTb hTT B
    have c_g1 := g1w.cell; have f_g1 := g1w.free
    go_upto_region 3 with (fail)
    refine wp_gen (fun Wv => OwnM Wv w.heap.size 48 (.slice v1A (1 + 1) v1c) (.slice o0A o0n o0c) (.slice s0A s0n s0c) nmM ∧ Bx Wv wa1.heap.size 26 #[.slice v1A (1 + 1) v1c, .slice o0A o0n o0c, .slice s0A s0n s0c] ∧ Below w.heap.size w Wv) ⟨omN.set g1w, by simpa using g1w.set (i := 0) (.slice v1A (1 + 1) v1c), hbel1.setCell (by simpa using hz0) _⟩ ?_
    clear omN g1w c_g1 f_g1 hbel1
    rintro WA ⟨omM, g1, B⟩
    have TT := Lib.hid (fun w h => TwinM_any (.slice v1A (1 + 1) v1c) (.slice o0A o0n o0c) (.slice s0A s0n s0c) nmM (small_chk nmM_chk) w h)
    generalize hp1 : wa1.heap.size = p1 at *
    have hp1' := g1.lt
    have HG := Lib.hid (And.intro omM (And.intro g1 B))
    clear omM g1 B hp1
    go_wp2
    go_loopg [2] 11 (fun gg i wr => ∃ k : Nat, k ≤ 11 ∧ gg = 11 - k ∧ i = .int .i64 k ∧ Hid (Below WA.heap.size WA wr))
    case atStart => exact ⟨0, by omega, by omega, rfl, Lib.hid (Below.refl _ _)⟩
    case round =>
      obtain ⟨k, hk, rfl, rfl, hh⟩ := hrel
      have B := hh.out
      obtain ⟨omM, g1, B0⟩ := HG.out
      replace g1 := g1.below B
      by_cases hlt : k < 11
      · have hm := (omM.below B).rd
        clear omM B0 hh
        have c_g1 := g1.cell; have f_g1 := g1.free; have a_g1 := fun o => (g1.alloc o).cell; have d_g1 := fun o o2 => ((g1.alloc o).alloc o2).cell; have e_g1 := fun o => (g1.alloc o).free
        have hzr := B.size
        go_wp2_with fail
        refine (TT.out _ hm).mono ?_
        rintro e wa3 ⟨t', o', s', rfl, om, b⟩
        try clear c_g1 f_g1 a_g1 d_g1 e_g1
        replace g1 := g1.below b; have c_g1 := g1.cell; have f_g1 := g1.free; have a_g1 := fun o => (g1.alloc o).cell; have d_g1 := fun o o2 => ((g1.alloc o).alloc o2).cell; have e_g1 := fun o => (g1.alloc o).free; replace B := B.trans (b.mono B.size); clear b
        obtain ⟨gT, cT, gO, cO, gS, sC, z0, z1, x0, x1, rfl, rfl, rfl, nm⟩ := NmR.of om
        clear om
        go_upto_region 7 with (fail)
        have hz7 := B.size
        refine wp_gen (fun Wv => Bx Wv (wa3.heap.size) (26) (#[.slice (some ⟨gT, 0, none⟩) 2 cT, .slice (some ⟨gO, 0, none⟩) 2 cO, .slice (some ⟨gS, 0, none⟩) 16 sC]) ∧ Below wa3.heap.size wa3 Wv) ⟨((Bx.at_ (by simp))), ((Below.refl _ wa3).alloc (by simp <;> omega) _)⟩ ?_
        rintro wa4 ⟨g3, b⟩
        try clear c_g1 f_g1 a_g1 d_g1 e_g1
        replace g1 := g1.below b; have c_g1 := g1.cell; have f_g1 := g1.free; have a_g1 := fun o => (g1.alloc o).cell; have d_g1 := fun o o2 => ((g1.alloc o).alloc o2).cell; have e_g1 := fun o => (g1.alloc o).free; replace nm := nm.below b; replace B := B.trans (b.mono B.size); clear b
        have c_g3 := g3.cell; have f_g3 := g3.free; have a_g3 := fun o => (g3.alloc o).cell; have d_g3 := fun o o2 => ((g3.alloc o).alloc o2).cell; have e_g3 := fun o => (g3.alloc o).free
        have hpA := hz7
        generalize hp3 : wa3.heap.size = p3 at *
        have hp3' := g3.lt
        go_upto_block 2 with (fail)
        go_cut [4] (fun wv wx => ∃ (M : Mo) (c : Int), wv = .int .i64 c ∧ L20.chk M = c ∧ c ≠ 0 ∧ Hid (∃ t o s, Bx wx p3 26 #[t, o, s] ∧ Mod wx t o s M ∧ Below WA.heap.size WA wx))
        case first =>
          have hk11 : k = 0 ∨ k = 1 ∨ k = 2 ∨ k = 3 ∨ k = 4 ∨ k = 5 ∨ k = 6 ∨ k = 7 ∨ k = 8 ∨ k = 9 ∨ k = 10 := by omega
          have HN := Lib.hid (And.intro nm (And.intro g3 B))
          have c_3 := g3.cell; have f_3 := g3.free
          clear nm g1 g3 B c_g1 f_g1 a_g1 d_g1 e_g1 c_g3 f_g3 a_g3 d_g3 e_g3 hm
          rcases hk11 with rfl | rfl | rfl | rfl | rfl | rfl | rfl | rfl | rfl | rfl | rfl
          · skip
            go_wp2_with (at_make; refine wpList_makeI (by rfl) rfl rfl rfl Try.underlying22 info_typs rfl (by omega) (by omega) (by omega) (Below.refl wa4.heap.size wa4) (Nat.le_refl _) ?_; intro v1 w1 o1 b1 b2; refine unhid ?_)
            obtain ⟨qA, qc, rfl⟩ := own_form' o1
            have g3w := HN.out.2.1.below b1
            have c_3 := g3w.cell; have f_3 := g3w.free
            have nm1 := HN.out.1.below b1
            refine Lib.hid ?_
            go_wp2
            go_meet
            exact ⟨nmC 0, 4, rfl, nmC0, by decide, Lib.hid ⟨_, _, _, by simpa using g3w.set (i := 0) _, ⟨nm_nine (own_set o1 g3w (by decide)), (nm1.om.set g3w).rd.o, (nm1.om.set g3w).rd.s⟩, (HN.out.2.2.trans (b1.mono HN.out.2.2.size)).setCell hpA _⟩⟩
          · skip
            go_wp2_with (at_make; refine wpList_makeK (m := 961) (by rfl) rfl rfl rfl Try.underlying23 info_obj2 (by omega) (by omega) ?_; intro v1 w1 o1 b1; refine unhid ?_)
            obtain ⟨qA, qc, rfl⟩ := own_form' o1
            have g3w := HN.out.2.1.below b1
            have c_3 := g3w.cell; have f_3 := g3w.free
            have nm1 := HN.out.1.below b1
            refine Lib.hid ?_
            go_wp2
            go_meet
            exact ⟨nmC 1, 4, rfl, nmC1, by decide, Lib.hid ⟨_, _, _, by simpa using g3w.set (i := 1) _, ⟨(nm1.om.set g3w).rd.t, nm_many (own_set o1 g3w (by decide)), (nm1.om.set g3w).rd.s⟩, (HN.out.2.2.trans (b1.mono HN.out.2.2.size)).setCell hpA _⟩⟩
          · obtain ⟨vc, rc, hcut⟩ := nm_cut HN.out.1.om.rd.s rfl
            obtain ⟨⟨qA, qc, rfl⟩⟩ : Nonempty (∃ A c, vc = .slice A 15 c) := ⟨by obtain ⟨A, c, e, _⟩ := hcut; exact ⟨A, c, e⟩⟩
            have HC3 : Hid (Slots (wa4.setCell ⟨p3, 2, none⟩ (.slice qA 15 qc)) (.slice qA 15 qc) (nmC 2).slots) := Lib.hid (by
              obtain ⟨v2, r2, m2⟩ := nm_cut (HN.out.1.om.set (i := 2) (u := .slice qA 15 qc) HN.out.2.1).rd.s rfl
              have e := (r2 wa4).symm.trans (rc wa4)
              injection e with e
              rw [e] at m2; exact m2)
            clear hcut
            go_wp2
            go_meet
            exact ⟨nmC 2, 8, rfl, nmC2, by decide, Lib.hid ⟨_, _, _, by simpa using HN.out.2.1.set (i := 2) _, ⟨(HN.out.1.om.set HN.out.2.1).rd.t, (HN.out.1.om.set HN.out.2.1).rd.o, HC3.out⟩, HN.out.2.2.setCell hpA _⟩⟩
          · obtain ⟨p, q, rfl, hB3, c1, f1, ix1, c2, ix2, gr, mo⟩ := HN.out.1.c3
            have hne : p ≠ p3 := by
              rcases own_not_bx HN.out.1.b1 HN.out.2.1 (by decide) with h | h
              · simp [Value.ownBlock] at h
              · intro e; exact h (by simp [Value.ownBlock, e])
            have HR := Lib.hid (And.intro gr mo)
            clear gr mo
            go_wp2
            go_meet
            exact ⟨nmC 3, 8, rfl, nmC3, by decide, Lib.hid ⟨_, _, _, HN.out.2.1.grown HR.out.1 (.inr (fun e => by injection e with e; exact hne e)), HR.out.2, HN.out.2.2.grown HR.out.1 HN.out.2.2.size (fun i hi => by injection hi with hi; omega)⟩⟩
          · obtain ⟨ix, c1, c2, fz⟩ := HN.out.1.obj
            have hne : gO ≠ p3 := by
              rcases own_not_bx HN.out.1.ho HN.out.2.1 (by decide) with h | h
              · simp [Value.ownBlock] at h
              · intro e; exact h (by simp [Value.ownBlock, e])
            have hB3 := HN.out.1.hO
            have HR := Lib.hid HN.out.1.c4
            go_wp2
            go_meet
            exact ⟨nmC 4, 8, rfl, nmC4, by decide, Lib.hid ⟨_, _, _, HN.out.2.1.grown HR.out.1 (.inr (fun e => by injection e with e; exact hne e)), HR.out.2, HN.out.2.2.grown HR.out.1 HN.out.2.2.size (fun i hi => by injection hi with hi; omega)⟩⟩
          · obtain ⟨ix, c1, c2, fz⟩ := HN.out.1.obj
            have hne : gO ≠ p3 := by
              rcases own_not_bx HN.out.1.ho HN.out.2.1 (by decide) with h | h
              · simp [Value.ownBlock] at h
              · intro e; exact h (by simp [Value.ownBlock, e])
            have hB3 := HN.out.1.hO
            obtain ⟨gf, cf, rfl, _⟩ := HN.out.1.c6
            have HR := Lib.hid HN.out.1.c5
            go_wp2
            go_meet
            exact ⟨nmC 5, 8, rfl, nmC5, by decide, Lib.hid ⟨_, _, _, HN.out.2.1.grown HR.out.1 (.inr (fun e => by injection e with e; exact hne e)), HR.out.2, HN.out.2.2.grown HR.out.1 HN.out.2.2.size (fun i hi => by injection hi with hi; omega)⟩⟩
          · obtain ⟨gf, cf, rfl, hB3, jx, c3, f3, gr, mo⟩ := HN.out.1.c6
            obtain ⟨ix, c1, c2, fz⟩ := HN.out.1.obj
            have hne : gf ≠ p3 := by
              rcases own_not_bx HN.out.1.f0 HN.out.2.1 (by decide) with h | h
              · simp [Value.ownBlock] at h
              · intro e; exact h (by simp [Value.ownBlock, e])
            have HR := Lib.hid (And.intro gr mo)
            clear gr mo
            go_wp2
            go_meet
            exact ⟨nmC 6, 8, rfl, nmC6, by decide, Lib.hid ⟨_, _, _, HN.out.2.1.grown HR.out.1 (.inr (fun e => by injection e with e; exact hne e)), HR.out.2, HN.out.2.2.grown HR.out.1 HN.out.2.2.size (fun i hi => by injection hi with hi; omega)⟩⟩
          · have ix := HN.out.1.obj.1
            have ca := fun o => (HN.out.1.below ((Below.refl _ wa4).alloc (Nat.le_refl _) o)).obj.2.1
            have cb := fun o => (HN.out.1.below ((Below.refl _ wa4).alloc (Nat.le_refl _) o)).obj.2.2.1
            have fa := fun o => (HN.out.1.below ((Below.refl _ wa4).alloc (Nat.le_refl _) o)).obj.2.2.2
            obtain ⟨gf, cf, rfl, _⟩ := HN.out.1.c6
            have c_3a := fun o => (HN.out.2.1.alloc o).cell
            have hne : gO ≠ p3 := by
              rcases own_not_bx HN.out.1.ho HN.out.2.1 (by decide) with h | h
              · simp [Value.ownBlock] at h
              · intro e; exact h (by simp [Value.ownBlock, e])
            have hB3 := HN.out.1.hO
            have HR := Lib.hid ((HN.out.1.below ((Below.refl _ wa4).alloc (Nat.le_refl _) (.cells #[.int .u64 9221120237041090560, .int .u64 0] 46))).c7 (Bx.new wa4 _ _))
            go_wp2
            go_meet
            exact ⟨nmC 7, 8, rfl, nmC7, by decide, Lib.hid ⟨_, _, _, (HN.out.2.1.alloc _).grown HR.out.1 (.inr (fun e => by injection e with e; exact hne e)), HR.out.2, (HN.out.2.2.alloc HN.out.2.2.size _).grown HR.out.1 (by simp; have := HN.out.2.2.size; omega) (fun i hi => by injection hi with hi; omega)⟩⟩
          · obtain ⟨ix0, ix5, c1, c2, c3, fz⟩ := HN.out.1.slots
            have hne : gS ≠ p3 := by
              rcases own_not_bx HN.out.1.om.s HN.out.2.1 (by decide) with h | h
              · simp [Value.ownBlock] at h
              · intro e; exact h (by simp [Value.ownBlock, e])
            have hB3 := HN.out.1.hS
            have HR := Lib.hid (HN.out.1.cS (k := 17) (u := .int .i64 1) (S' := exM.slots.set 5 ⟨0, false, 1⟩) rfl rfl)
            go_wp2
            go_meet
            exact ⟨nmC 8, 8, rfl, nmC8, by decide, Lib.hid ⟨_, _, _, HN.out.2.1.grown HR.out.1 (.inr (fun e => by injection e with e; exact hne e)), HR.out.2, HN.out.2.2.grown HR.out.1 HN.out.2.2.size (fun i hi => by injection hi with hi; omega)⟩⟩
          · obtain ⟨ix0, ix5, c1, c2, c3, fz⟩ := HN.out.1.slots
            have hne : gS ≠ p3 := by
              rcases own_not_bx HN.out.1.om.s HN.out.2.1 (by decide) with h | h
              · simp [Value.ownBlock] at h
              · intro e; exact h (by simp [Value.ownBlock, e])
            have hB3 := HN.out.1.hS
            have HR := Lib.hid (HN.out.1.cS (k := 2) (u := .int .i64 2) (S' := exM.slots.set 0 ⟨1, true, 2⟩) rfl rfl)
            go_wp2
            go_meet
            exact ⟨nmC 9, 8, rfl, nmC9, by decide, Lib.hid ⟨_, _, _, HN.out.2.1.grown HR.out.1 (.inr (fun e => by injection e with e; exact hne e)), HR.out.2, HN.out.2.2.grown HR.out.1 HN.out.2.2.size (fun i hi => by injection hi with hi; omega)⟩⟩
          · obtain ⟨ix0, ix5, c1, c2, c3, fz⟩ := HN.out.1.slots
            have hne : gS ≠ p3 := by
              rcases own_not_bx HN.out.1.om.s HN.out.2.1 (by decide) with h | h
              · simp [Value.ownBlock] at h
              · intro e; exact h (by simp [Value.ownBlock, e])
            have hB3 := HN.out.1.hS
            have HR := Lib.hid (HN.out.1.cS (k := 0) (u := .int .i64 0) (S' := exM.slots.set 0 ⟨0, true, 0⟩) rfl rfl)
            go_wp2
            go_meet
            exact ⟨nmC 10, 8, rfl, nmC10, by decide, Lib.hid ⟨_, _, _, HN.out.2.1.grown HR.out.1 (.inr (fun e => by injection e with e; exact hne e)), HR.out.2, HN.out.2.2.grown HR.out.1 HN.out.2.2.size (fun i hi => by injection hi with hi; omega)⟩⟩
        case rest =>
          obtain ⟨MM, cc, rfl, hcM, hc0, hq⟩ := hcut
          obtain ⟨qt, qo, qs, g3, hm3, B⟩ := hq.out
          obtain ⟨⟨ra, rb, rc, rfl⟩, ⟨rd, re, rf, rfl⟩, ⟨rg, rh, ri, rfl⟩⟩ := hm3.forms
          obtain ⟨M5, a5, b5, hA5⟩ := Alloc20_er MM (-1) cc (allE_bad hcM hc0)
          have AL := Lib.hid (hA5 (.slice ra rb rc) (.slice rd re rf) (.slice rg rh ri))
          have CN := Lib.hid (fun w h => Canon20_no (.slice ra rb rc) (.slice rd re rf) (.slice rg rh ri) MM cc hcM.symm (by rw [hcM]; exact hc0) w h)
          obtain ⟨v5, hG5⟩ := Get20_er MM (-1) 0 0 cc (getE_bad hcM hc0)
          have GT := Lib.hid (hG5 (.slice ra rb rc) (.slice rd re rf) (.slice rg rh ri))
          have CK := Lib.hid (fun w h => Check20_any (.slice ra rb rc) (.slice rd re rf) (.slice rg rh ri) MM cc hcM.symm w h)
          clear hA5 hG5 hq hcM hc0
          have c_g3 := g3.cell; have f_g3 := g3.free; have a_g3 := fun o => (g3.alloc o).cell; have d_g3 := fun o o2 => ((g3.alloc o).alloc o2).cell; have e_g3 := fun o => (g3.alloc o).free
          go_wp2_with fail
          refine (AL.out _ hm3).mono ?_
          rintro e wa5 ⟨t1, o1, s1, rfl, k1, b⟩
          try clear c_g3 f_g3 a_g3 d_g3 e_g3
          replace g3 := g3.below b; have c_g3 := g3.cell; have f_g3 := g3.free; have a_g3 := fun o => (g3.alloc o).cell; have d_g3 := fun o o2 => ((g3.alloc o).alloc o2).cell; have e_g3 := fun o => (g3.alloc o).free; replace hm3 := hm3.below b; replace B := B.trans (b.mono B.size); clear b
          obtain ⟨⟨pa, pb, pc, rfl⟩, ⟨pd, pe, pf, rfl⟩, ⟨pg, ph, pi, rfl⟩⟩ := k1.forms
          clear k1
          go_upto_region 31 with (fail)
          refine wp_gen (fun Wv => Below wa5.heap.size wa5 Wv) (((Below.refl _ wa5).alloc (by simp <;> omega) _).alloc (by simp <;> omega) _) ?_
          intro wa6 b
          try clear c_g3 f_g3 a_g3 d_g3 e_g3
          replace g3 := g3.below b; have c_g3 := g3.cell; have f_g3 := g3.free; have a_g3 := fun o => (g3.alloc o).cell; have d_g3 := fun o o2 => ((g3.alloc o).alloc o2).cell; have e_g3 := fun o => (g3.alloc o).free; replace hm3 := hm3.below b; replace B := B.trans (b.mono B.size); clear b
          go_wp2_with fail
          refine (CN.out _ hm3).mono ?_
          rintro e wa7 ⟨t2, o2, s2, rfl, k2, b⟩
          try clear c_g3 f_g3 a_g3 d_g3 e_g3
          replace g3 := g3.below b; have c_g3 := g3.cell; have f_g3 := g3.free; have a_g3 := fun o => (g3.alloc o).cell; have d_g3 := fun o o2 => ((g3.alloc o).alloc o2).cell; have e_g3 := fun o => (g3.alloc o).free; replace hm3 := hm3.below b; replace B := B.trans (b.mono B.size); clear b
          obtain ⟨⟨qa, qb, qc, rfl⟩, ⟨qd, qe, qf, rfl⟩, ⟨qg, qh, qi, rfl⟩⟩ := k2.forms
          clear k2
          go_upto_region 32 with (fail)
          refine wp_gen (fun Wv => Below wa7.heap.size wa7 Wv) ((Below.refl _ wa7).alloc (by simp <;> omega) _) ?_
          intro wa8 b
          try clear c_g3 f_g3 a_g3 d_g3 e_g3
          replace g3 := g3.below b; have c_g3 := g3.cell; have f_g3 := g3.free; have a_g3 := fun o => (g3.alloc o).cell; have d_g3 := fun o o2 => ((g3.alloc o).alloc o2).cell; have e_g3 := fun o => (g3.alloc o).free; replace hm3 := hm3.below b; replace B := B.trans (b.mono B.size); clear b
          go_wp2_with fail
          refine (GT.out _ hm3).mono ?_
          rintro e wa9 ⟨rfl, b⟩
          try clear c_g3 f_g3 a_g3 d_g3 e_g3
          replace g3 := g3.below b; have c_g3 := g3.cell; have f_g3 := g3.free; have a_g3 := fun o => (g3.alloc o).cell; have d_g3 := fun o o2 => ((g3.alloc o).alloc o2).cell; have e_g3 := fun o => (g3.alloc o).free; replace hm3 := hm3.below b; replace B := B.trans (b.mono B.size); clear b
          go_wp2_with fail
          refine (CK.out _ hm3).mono ?_
          rintro e wa10 ⟨rfl, b⟩
          try clear c_g3 f_g3 a_g3 d_g3 e_g3
          replace g3 := g3.below b; have c_g3 := g3.cell; have f_g3 := g3.free; have a_g3 := fun o => (g3.alloc o).cell; have d_g3 := fun o o2 => ((g3.alloc o).alloc o2).cell; have e_g3 := fun o => (g3.alloc o).free; replace hm3 := hm3.below b; replace B := B.trans (b.mono B.size); clear b
          go_wp2
          go_roundg (11 - (k + 1))
          case measure => omega
          case rel => exact ⟨k + 1, by omega, rfl, by go_num, Lib.hid B⟩
      · obtain rfl : k = 11 := by omega
        obtain ⟨omM, g1, B0⟩ := HG.out
        have B := hh.out
        have hz9 := B0.size
        have hm := (omM.below B).rd
        replace g1 := g1.below B
        replace B := B0.trans (B.mono hz9)
        clear omM B0 hh HG TT hz9
        have c_g1 := g1.cell; have f_g1 := g1.free; have a_g1 := fun o => (g1.alloc o).cell; have d_g1 := fun o o2 => ((g1.alloc o).alloc o2).cell; have e_g1 := fun o => (g1.alloc o).free
        obtain ⟨M2, a2, b2, hA2⟩ := Alloc20_er nmM 2 2 nm_a2.symm
        have A2 := Lib.hid (hA2 (.slice v1A (1 + 1) v1c) (.slice o0A o0n o0c) (.slice s0A s0n s0c)); clear hA2
        obtain ⟨M3, a3, b3, hA3⟩ := Alloc20_er nmM (-1) 2 nm_am.symm
        have A3 := Lib.hid (hA3 (.slice v1A (1 + 1) v1c) (.slice o0A o0n o0c) (.slice s0A s0n s0c)); clear hA3
        have A1 := Lib.hid (fun w h => Alloc20_any (.slice v1A (1 + 1) v1c) (.slice o0A o0n o0c) (.slice s0A s0n s0c) nmM 1 nmX 0 2 1 nm_x.symm nm_xe.symm nm_xs.symm nm_xg.symm w h)
        go_wp2_with fail
        refine (A2.out _ hm).mono ?_
        rintro e wa11 ⟨t1, o1, s1, rfl, k1, b⟩
        try clear c_g1 f_g1 a_g1 d_g1 e_g1
        replace g1 := g1.below b; have c_g1 := g1.cell; have f_g1 := g1.free; have a_g1 := fun o => (g1.alloc o).cell; have d_g1 := fun o o2 => ((g1.alloc o).alloc o2).cell; have e_g1 := fun o => (g1.alloc o).free; replace hm := hm.below b; replace B := B.trans (b.mono B.size); clear b
        obtain ⟨⟨pa, pb, pc, rfl⟩, ⟨pd, pe, pf, rfl⟩, ⟨pg, ph, pi, rfl⟩⟩ := k1.forms
        clear k1
        go_upto_region 36 with (fail)
        refine wp_gen (fun Wv => Below wa11.heap.size wa11 Wv) (((Below.refl _ wa11).alloc (by simp <;> omega) _).alloc (by simp <;> omega) _) ?_
        intro wa12 b
        try clear c_g1 f_g1 a_g1 d_g1 e_g1
        replace g1 := g1.below b; have c_g1 := g1.cell; have f_g1 := g1.free; have a_g1 := fun o => (g1.alloc o).cell; have d_g1 := fun o o2 => ((g1.alloc o).alloc o2).cell; have e_g1 := fun o => (g1.alloc o).free; replace hm := hm.below b; replace B := B.trans (b.mono B.size); clear b
        go_wp2_with fail
        refine (A3.out _ hm).mono ?_
        rintro e wa13 ⟨t2, o2, s2, rfl, k2, b⟩
        try clear c_g1 f_g1 a_g1 d_g1 e_g1
        replace g1 := g1.below b; have c_g1 := g1.cell; have f_g1 := g1.free; have a_g1 := fun o => (g1.alloc o).cell; have d_g1 := fun o o2 => ((g1.alloc o).alloc o2).cell; have e_g1 := fun o => (g1.alloc o).free; replace hm := hm.below b; replace B := B.trans (b.mono B.size); clear b
        obtain ⟨⟨qa, qb, qc, rfl⟩, ⟨qd, qe, qf, rfl⟩, ⟨qg, qh, qi, rfl⟩⟩ := k2.forms
        clear k2
        go_upto_region 37 with (fail)
        refine wp_gen (fun Wv => Below wa13.heap.size wa13 Wv) (((Below.refl _ wa13).alloc (by simp <;> omega) _).alloc (by simp <;> omega) _) ?_
        intro wa14 b
        try clear c_g1 f_g1 a_g1 d_g1 e_g1
        replace g1 := g1.below b; have c_g1 := g1.cell; have f_g1 := g1.free; have a_g1 := fun o => (g1.alloc o).cell; have d_g1 := fun o o2 => ((g1.alloc o).alloc o2).cell; have e_g1 := fun o => (g1.alloc o).free; replace hm := hm.below b; replace B := B.trans (b.mono B.size); clear b
        go_wp2_with fail
        refine (A1.out _ hm).mono ?_
        rintro e wa15 ⟨t3, o3, s3, rfl, kx, b⟩
        try clear c_g1 f_g1 a_g1 d_g1 e_g1
        replace g1 := g1.below b; have c_g1 := g1.cell; have f_g1 := g1.free; have a_g1 := fun o => (g1.alloc o).cell; have d_g1 := fun o o2 => ((g1.alloc o).alloc o2).cell; have e_g1 := fun o => (g1.alloc o).free; replace hm := hm.below b; replace B := B.trans (b.mono B.size); clear b
        obtain ⟨⟨xa, xb, xc, rfl⟩, ⟨xd, xe, xf, rfl⟩, ⟨xg, xh, xi, rfl⟩⟩ := kx.forms
        go_upto_region 38 with (fail)
        refine wp_gen (fun Wv => Bx Wv (wa15.heap.size) (26) (#[.slice xa xb xc, .slice xd xe xf, .slice xg xh xi]) ∧ Bx Wv (wa15.heap.size + 1) (50) (#[.int .i64 2, .int .i64 1]) ∧ Below wa15.heap.size wa15 Wv) ⟨(((Bx.at_ (by simp)).alloc _)), ((Bx.at_ (by simp))), (((Below.refl _ wa15).alloc (by simp <;> omega) _).alloc (by simp <;> omega) _)⟩ ?_
        rintro wa16 ⟨g18, g19, b⟩
        try clear c_g1 f_g1 a_g1 d_g1 e_g1
        replace g1 := g1.below b; have c_g1 := g1.cell; have f_g1 := g1.free; have a_g1 := fun o => (g1.alloc o).cell; have d_g1 := fun o o2 => ((g1.alloc o).alloc o2).cell; have e_g1 := fun o => (g1.alloc o).free; replace hm := hm.below b; replace kx := kx.below b; replace B := B.trans (b.mono B.size); clear b
        have c_g18 := g18.cell; have f_g18 := g18.free; have a_g18 := fun o => (g18.alloc o).cell; have d_g18 := fun o o2 => ((g18.alloc o).alloc o2).cell; have e_g18 := fun o => (g18.alloc o).free
        have c_g19 := g19.cell; have f_g19 := g19.free; have a_g19 := fun o => (g19.alloc o).cell; have d_g19 := fun o o2 => ((g19.alloc o).alloc o2).cell; have e_g19 := fun o => (g19.alloc o).free
        clear A1 A2 A3
        obtain ⟨v4, hG4⟩ := Get20_er nmX 2 1 2 2 nm_d.symm
        have GD := Lib.hid (hG4 (.slice xa xb xc) (.slice xd xe xf) (.slice xg xh xi)); clear hG4
        go_wp2_with fail
        refine (GD.out _ kx).mono ?_
        rintro e wa17 ⟨rfl, b⟩
        try clear c_g1 f_g1 a_g1 d_g1 e_g1
        replace g1 := g1.below b; have c_g1 := g1.cell; have f_g1 := g1.free; have a_g1 := fun o => (g1.alloc o).cell; have d_g1 := fun o o2 => ((g1.alloc o).alloc o2).cell; have e_g1 := fun o => (g1.alloc o).free; replace hm := hm.below b; replace kx := kx.below b; try clear c_g18 f_g18 a_g18 d_g18 e_g18
        replace g18 := g18.below b; have c_g18 := g18.cell; have f_g18 := g18.free; have a_g18 := fun o => (g18.alloc o).cell; have d_g18 := fun o o2 => ((g18.alloc o).alloc o2).cell; have e_g18 := fun o => (g18.alloc o).free; try clear c_g19 f_g19 a_g19 d_g19 e_g19
        replace g19 := g19.below b; have c_g19 := g19.cell; have f_g19 := g19.free; have a_g19 := fun o => (g19.alloc o).cell; have d_g19 := fun o o2 => ((g19.alloc o).alloc o2).cell; have e_g19 := fun o => (g19.alloc o).free; replace B := B.trans (b.mono B.size); clear b
        obtain ⟨v5, hG5⟩ := Get20_er nmX 0 1 0 42 nm_e.symm
        have GE := Lib.hid (hG5 (.slice xa xb xc) (.slice xd xe xf) (.slice xg xh xi)); clear hG5
        go_upto_region 39 with (fail)
        have KX := Lib.hid (fun z : Fut _ => kx.below z.h)
        refine wp_region_calm (by kernel_rfl) (by kernel_rfl) ?_
        try clear c_g1 f_g1 a_g1 d_g1 e_g1
        have c_g1 := fun x : Fut _ => (g1.below x.h).cell
        try clear c_g18 f_g18 a_g18 d_g18 e_g18
        have c_g18 := fun x : Fut _ => (g18.below x.h).cell
        try clear c_g19 f_g19 a_g19 d_g19 e_g19
        have c_g19 := fun x : Fut _ => (g19.below x.h).cell
        repeat (go_big_quiet_step (first | exact Fut.call (slot20_any 0 _) | exact Fut.call (GE.out _ (KX.out _))))
        refine wpQuiet_nil ?_
        intro _ hw'
        obtain ⟨xq, hw''⟩ := hw'
        subst hw''
        clear c_g1; replace g1 := g1.below xq.h; have c_g1 := g1.cell; have f_g1 := g1.free; have a_g1 := fun o => (g1.alloc o).cell; have d_g1 := fun o o2 => ((g1.alloc o).alloc o2).cell; have e_g1 := fun o => (g1.alloc o).free
        replace hm := hm.below xq.h
        replace kx := kx.below xq.h
        clear c_g18; replace g18 := g18.below xq.h; have c_g18 := g18.cell; have f_g18 := g18.free; have a_g18 := fun o => (g18.alloc o).cell; have d_g18 := fun o o2 => ((g18.alloc o).alloc o2).cell; have e_g18 := fun o => (g18.alloc o).free
        clear c_g19; replace g19 := g19.below xq.h; have c_g19 := g19.cell; have f_g19 := g19.free; have a_g19 := fun o => (g19.alloc o).cell; have d_g19 := fun o o2 => ((g19.alloc o).alloc o2).cell; have e_g19 := fun o => (g19.alloc o).free
        replace B := B.trans (xq.h.mono B.size)
        generalize xq.W = W39 at *
        clear KX GD GE
        have ST := Lib.hid (fun w h => Set20_any (.slice xa xb xc) (.slice xd xe xf) (.slice xg xh xi) nmX 2 1 0 18444492273895866368 nmY 0 nm_y.symm nm_f.symm w h)
        go_wp2_with fail
        refine (ST.out _ kx).mono ?_
        rintro e wa18 ⟨t4, o4, s4, rfl, ky, b⟩
        try clear c_g1 f_g1 a_g1 d_g1 e_g1
        replace g1 := g1.below b; have c_g1 := g1.cell; have f_g1 := g1.free; have a_g1 := fun o => (g1.alloc o).cell; have d_g1 := fun o o2 => ((g1.alloc o).alloc o2).cell; have e_g1 := fun o => (g1.alloc o).free; try clear c_g18 f_g18 a_g18 d_g18 e_g18
        replace g18 := g18.below b; have c_g18 := g18.cell; have f_g18 := g18.free; have a_g18 := fun o => (g18.alloc o).cell; have d_g18 := fun o o2 => ((g18.alloc o).alloc o2).cell; have e_g18 := fun o => (g18.alloc o).free; try clear c_g19 f_g19 a_g19 d_g19 e_g19
        replace g19 := g19.below b; have c_g19 := g19.cell; have f_g19 := g19.free; have a_g19 := fun o => (g19.alloc o).cell; have d_g19 := fun o o2 => ((g19.alloc o).alloc o2).cell; have e_g19 := fun o => (g19.alloc o).free; replace hm := hm.below b; replace kx := kx.below b; replace B := B.trans (b.mono B.size); clear b
        obtain ⟨⟨ya, yb, yc, rfl⟩, ⟨yd, ye, yf, rfl⟩, ⟨yg, yh, yi, rfl⟩⟩ := ky.forms
        go_upto_region 41 with (fail)
        refine wp_gen (fun Wv => Bx Wv (wa18.heap.size) (26) (#[.slice ya yb yc, .slice yd ye yf, .slice yg yh yi]) ∧ Below wa18.heap.size wa18 Wv) ⟨((Bx.at_ (by simp))), ((Below.refl _ wa18).alloc (by simp <;> omega) _)⟩ ?_
        rintro wa19 ⟨g25, b⟩
        try clear c_g1 f_g1 a_g1 d_g1 e_g1
        replace g1 := g1.below b; have c_g1 := g1.cell; have f_g1 := g1.free; have a_g1 := fun o => (g1.alloc o).cell; have d_g1 := fun o o2 => ((g1.alloc o).alloc o2).cell; have e_g1 := fun o => (g1.alloc o).free; try clear c_g18 f_g18 a_g18 d_g18 e_g18
        replace g18 := g18.below b; have c_g18 := g18.cell; have f_g18 := g18.free; have a_g18 := fun o => (g18.alloc o).cell; have d_g18 := fun o o2 => ((g18.alloc o).alloc o2).cell; have e_g18 := fun o => (g18.alloc o).free; try clear c_g19 f_g19 a_g19 d_g19 e_g19
        replace g19 := g19.below b; have c_g19 := g19.cell; have f_g19 := g19.free; have a_g19 := fun o => (g19.alloc o).cell; have d_g19 := fun o o2 => ((g19.alloc o).alloc o2).cell; have e_g19 := fun o => (g19.alloc o).free; replace hm := hm.below b; replace kx := kx.below b; replace ky := ky.below b; replace B := B.trans (b.mono B.size); clear b
        have c_g25 := g25.cell; have f_g25 := g25.free; have a_g25 := fun o => (g25.alloc o).cell; have d_g25 := fun o o2 => ((g25.alloc o).alloc o2).cell; have e_g25 := fun o => (g25.alloc o).free
        have GV := Lib.hid (fun w h => Get20_any (.slice ya yb yc) (.slice yd ye yf) (.slice yg yh yi) nmY 2 1 0 9221120237041090561 0 nm_v.symm nm_g.symm w h)
        go_wp2_with fail
        refine (GV.out _ ky).mono ?_
        rintro e wa20 ⟨rfl, b⟩
        try clear c_g1 f_g1 a_g1 d_g1 e_g1
        replace g1 := g1.below b; have c_g1 := g1.cell; have f_g1 := g1.free; have a_g1 := fun o => (g1.alloc o).cell; have d_g1 := fun o o2 => ((g1.alloc o).alloc o2).cell; have e_g1 := fun o => (g1.alloc o).free; try clear c_g18 f_g18 a_g18 d_g18 e_g18
        replace g18 := g18.below b; have c_g18 := g18.cell; have f_g18 := g18.free; have a_g18 := fun o => (g18.alloc o).cell; have d_g18 := fun o o2 => ((g18.alloc o).alloc o2).cell; have e_g18 := fun o => (g18.alloc o).free; try clear c_g19 f_g19 a_g19 d_g19 e_g19
        replace g19 := g19.below b; have c_g19 := g19.cell; have f_g19 := g19.free; have a_g19 := fun o => (g19.alloc o).cell; have d_g19 := fun o o2 => ((g19.alloc o).alloc o2).cell; have e_g19 := fun o => (g19.alloc o).free; replace hm := hm.below b; replace kx := kx.below b; replace ky := ky.below b; try clear c_g25 f_g25 a_g25 d_g25 e_g25
        replace g25 := g25.below b; have c_g25 := g25.cell; have f_g25 := g25.free; have a_g25 := fun o => (g25.alloc o).cell; have d_g25 := fun o o2 => ((g25.alloc o).alloc o2).cell; have e_g25 := fun o => (g25.alloc o).free; replace B := B.trans (b.mono B.size); clear b
        clear ST GV
        clear g25 c_g25 f_g25 a_g25 d_g25 e_g25
        clear ky
        obtain ⟨M6, hS6⟩ := Set20_er nmX 1 1 0 42 1 nm_i.symm
        have SI := Lib.hid (hS6 (.slice xa xb xc) (.slice xd xe xf) (.slice xg xh xi)); clear hS6
        go_upto_region 42 with (fail)
        clear c_g1 f_g1 a_g1 d_g1 e_g1 c_g18 f_g18 a_g18 d_g18 e_g18 c_g19 f_g19 a_g19 d_g19 e_g19
        have hzq := B.size
        refine wp_region_R1 1 42 (fun _ _ => True) (fun _ => RbSt.triv) 18 #[.agg #[.slice xa xb xc, .slice xd xe xf, .slice xg xh xi], .agg #[.int .i64 1, .int .i64 1], .int .i64 0, .int .u64 1] (by kernel_rfl) (by kernel_rfl) (by kernel_rfl) (by kernel_rfl) (fun W hW => toR1 (SI.out W (kx.below hW))) ?_
        intro g
        have cq := fun x : FXN (FR1 wa20 (fun _ _ => True) g) => (g18.below x.belowR1).cell
        haveI : Nonempty (FXN (FR1 wa20 (fun _ _ => True) g)) := ⟨⟨_, _, FR1.start⟩⟩
        iterate 1 (refine wpM_read FR1.dep rfl (by decide) (by decide) ?_; go_big_quiet_step (fail); refine wpQuiet_nil ?_)
        refine wpM_new (by decide) rfl (by show TR1 _ _ _ 1 _; unfold TR1; rw [if_pos rfl]; intro W; simp [execOp, resolve, invoke, Act.eval, go_sem]) ?_
        simp only [Act.put, List.setIfInBounds_toArray, List.set_cons_zero, List.set_cons_succ]
        rw [show valR1 1 42 g 1 = .agg #[.int .i64 1, .int .i64 1] from rfl]
        refine wpM_new (by decide) rfl (by show TR1 _ _ _ 2 _; unfold TR1; rw [if_neg (by decide), if_pos rfl]; intro W; simp [execOp, resolve, invoke, Act.eval, go_sem]) ?_
        simp only [Act.put, List.setIfInBounds_toArray, List.set_cons_zero, List.set_cons_succ]
        rw [show valR1 1 42 g 2 = .tuple #[.agg #[.slice g.1.tA g.1.tn g.1.tc, .slice g.1.oA g.1.on g.1.oc, .slice g.1.sA g.1.sn g.1.sc], .int .i64 42] from rfl]
        iterate 3 (refine wpM_read FR1.dep rfl (by decide) (by decide) ?_; go_big_quiet_step (fail); refine wpQuiet_nil ?_)
        refine wpM_new (by decide) rfl (by show TR1 _ _ _ 6 _; unfold TR1; rw [if_neg (by decide), if_neg (by decide)]; intro W; simp [execOp, go_sem, rbM]) ?_
        simp only [Act.put, List.setIfInBounds_toArray, List.set_cons_zero, List.set_cons_succ]
        rw [show valR1 1 42 g 6 = .pointer (some ⟨g.2, 0, none⟩) from rfl]
        refine wpM_store FR1.dep (by decide) rfl 26 (.tmp 29) (.tmp 224) rfl (by rfl) (p := .pointer (some ⟨g.2, 0, none⟩)) (u := .agg #[.slice g.1.tA g.1.tn g.1.tc, .slice g.1.oA g.1.on g.1.oc, .slice g.1.sA g.1.sn g.1.sc]) (by rfl) (by rfl) [6, 2] (by kernel_rfl) (fun f W hF h0 h1 => ?_) ?_
        · obtain ⟨s1, s2, s3⟩ := hF.store1 (fun _ => RbSt.triv) (h1 6 (by simp)) (h1 2 (by simp)) h0
          refine ⟨_, ?_, s3⟩
          simp [go_sem, s1, s2, rbM, rbS3, GR.m]
        simp only [Act.put, List.setIfInBounds_toArray, List.set_cons_zero, List.set_cons_succ]
        iterate 1 (refine wpM_read FR1.dep rfl (by decide) (by decide) ?_; go_big_quiet_step (fail); refine wpQuiet_nil ?_)
        refine wpM_nil ?_
        intro wq42 hF
        obtain ⟨bW, hg, _, f11⟩ := hF
        obtain ⟨_, g11⟩ := f11 rfl
        have hgr := hg rfl
        clear f11 hg cq this
        clear g11 hgr
        replace g1 := g1.below bW
        replace g18 := g18.below bW
        replace g19 := g19.below bW
        replace hm := hm.below bW
        replace kx := kx.below bW
        replace B := B.trans (bW.mono hzq)
        clear bW hzq
        have c_g1 := g1.cell; have f_g1 := g1.free; have a_g1 := fun o => (g1.alloc o).cell; have d_g1 := fun o o2 => ((g1.alloc o).alloc o2).cell; have e_g1 := fun o => (g1.alloc o).free
        have c_g18 := g18.cell; have f_g18 := g18.free; have a_g18 := fun o => (g18.alloc o).cell; have d_g18 := fun o o2 => ((g18.alloc o).alloc o2).cell; have e_g18 := fun o => (g18.alloc o).free
        have c_g19 := g19.cell; have f_g19 := g19.free; have a_g19 := fun o => (g19.alloc o).cell; have d_g19 := fun o o2 => ((g19.alloc o).alloc o2).cell; have e_g19 := fun o => (g19.alloc o).free
        clear SI
        obtain ⟨M7, hS7⟩ := SetRef20_er nmX 2 1 0 42 none nm_j.symm
        have SJ := Lib.hid (hS7 (.slice xa xb xc) (.slice xd xe xf) (.slice xg xh xi)); clear hS7
        go_wp2_with fail
        refine (SJ.out _ _ kx rfl).mono ?_
        rintro e wa21 ⟨t5, o5, s5, rfl, k5, b⟩
        try clear c_g1 f_g1 a_g1 d_g1 e_g1
        replace g1 := g1.below b; have c_g1 := g1.cell; have f_g1 := g1.free; have a_g1 := fun o => (g1.alloc o).cell; have d_g1 := fun o o2 => ((g1.alloc o).alloc o2).cell; have e_g1 := fun o => (g1.alloc o).free; try clear c_g18 f_g18 a_g18 d_g18 e_g18
        replace g18 := g18.below b; have c_g18 := g18.cell; have f_g18 := g18.free; have a_g18 := fun o => (g18.alloc o).cell; have d_g18 := fun o o2 => ((g18.alloc o).alloc o2).cell; have e_g18 := fun o => (g18.alloc o).free; try clear c_g19 f_g19 a_g19 d_g19 e_g19
        replace g19 := g19.below b; have c_g19 := g19.cell; have f_g19 := g19.free; have a_g19 := fun o => (g19.alloc o).cell; have d_g19 := fun o o2 => ((g19.alloc o).alloc o2).cell; have e_g19 := fun o => (g19.alloc o).free; replace hm := hm.below b; replace kx := kx.below b; replace B := B.trans (b.mono B.size); clear b
        obtain ⟨⟨pa, pb, pc, rfl⟩, ⟨pd, pe, pf, rfl⟩, ⟨pg, ph, pi, rfl⟩⟩ := k5.forms
        clear k5
        clear SJ
        go_upto_region 44 with (fail)
        refine wp_gen (fun Wv => Below wa21.heap.size wa21 Wv) ((Below.refl _ wa21).alloc (by simp <;> omega) _) ?_
        intro wa22 b
        try clear c_g1 f_g1 a_g1 d_g1 e_g1
        replace g1 := g1.below b; have c_g1 := g1.cell; have f_g1 := g1.free; have a_g1 := fun o => (g1.alloc o).cell; have d_g1 := fun o o2 => ((g1.alloc o).alloc o2).cell; have e_g1 := fun o => (g1.alloc o).free; try clear c_g18 f_g18 a_g18 d_g18 e_g18
        replace g18 := g18.below b; have c_g18 := g18.cell; have f_g18 := g18.free; have a_g18 := fun o => (g18.alloc o).cell; have d_g18 := fun o o2 => ((g18.alloc o).alloc o2).cell; have e_g18 := fun o => (g18.alloc o).free; try clear c_g19 f_g19 a_g19 d_g19 e_g19
        replace g19 := g19.below b; have c_g19 := g19.cell; have f_g19 := g19.free; have a_g19 := fun o => (g19.alloc o).cell; have d_g19 := fun o o2 => ((g19.alloc o).alloc o2).cell; have e_g19 := fun o => (g19.alloc o).free; replace hm := hm.below b; replace kx := kx.below b; replace B := B.trans (b.mono B.size); clear b
        go_upto_region 45 with (fail)
        refine wp_gen (fun Wv => Bx Wv (wa22.heap.size) (50) (#[.int .i64 0, .int .i64 2]) ∧ Below wa22.heap.size wa22 Wv) ⟨((Bx.at_ (by simp))), ((Below.refl _ wa22).alloc (by simp <;> omega) _)⟩ ?_
        rintro wa23 ⟨g33, b⟩
        try clear c_g1 f_g1 a_g1 d_g1 e_g1
        replace g1 := g1.below b; have c_g1 := g1.cell; have f_g1 := g1.free; have a_g1 := fun o => (g1.alloc o).cell; have d_g1 := fun o o2 => ((g1.alloc o).alloc o2).cell; have e_g1 := fun o => (g1.alloc o).free; try clear c_g18 f_g18 a_g18 d_g18 e_g18
        replace g18 := g18.below b; have c_g18 := g18.cell; have f_g18 := g18.free; have a_g18 := fun o => (g18.alloc o).cell; have d_g18 := fun o o2 => ((g18.alloc o).alloc o2).cell; have e_g18 := fun o => (g18.alloc o).free; try clear c_g19 f_g19 a_g19 d_g19 e_g19
        replace g19 := g19.below b; have c_g19 := g19.cell; have f_g19 := g19.free; have a_g19 := fun o => (g19.alloc o).cell; have d_g19 := fun o o2 => ((g19.alloc o).alloc o2).cell; have e_g19 := fun o => (g19.alloc o).free; replace hm := hm.below b; replace kx := kx.below b; replace B := B.trans (b.mono B.size); clear b
        have c_g33 := g33.cell; have f_g33 := g33.free; have a_g33 := fun o => (g33.alloc o).cell; have d_g33 := fun o o2 => ((g33.alloc o).alloc o2).cell; have e_g33 := fun o => (g33.alloc o).free
        obtain ⟨M8, hS8⟩ := SetRef20_er nmX 1 1 0 28 (some (0, 2)) nm_k.symm
        have SK := Lib.hid (hS8 (.slice xa xb xc) (.slice xd xe xf) (.slice xg xh xi)); clear hS8
        obtain ⟨M9, hS9⟩ := SetRef20_er nmX 1 1 1 2 (some (0, 2)) nm_l.symm
        have SL := Lib.hid (hS9 (.slice xa xb xc) (.slice xd xe xf) (.slice xg xh xi)); clear hS9
        obtain ⟨p33, hp33⟩ : ∃ p, p = wa22.heap.size := ⟨_, rfl⟩
        rw [← hp33] at g33 c_g33 f_g33 a_g33 d_g33 e_g33 ⊢
        clear hp33
        go_upto_region 45 with (fail)
        clear c_g1 f_g1 a_g1 d_g1 e_g1 c_g18 f_g18 a_g18 d_g18 e_g18 c_g19 f_g19 a_g19 d_g19 e_g19 c_g33 f_g33 a_g33 d_g33 e_g33
        have hzq := B.size
        refine wp_region_R1 1 28 (fun _ _ => True) (fun _ => RbSt.triv) 19 #[.agg #[.slice xa xb xc, .slice xd xe xf, .slice xg xh xi], .agg #[.int .i64 1, .int .i64 1], .int .i64 0, .pointer (some ⟨p33, 0, none⟩)] (by kernel_rfl) (by kernel_rfl) (by kernel_rfl) (by kernel_rfl) (fun W hW => toR1 (SK.out _ W (kx.below hW) ⟨_, rfl, g33.below hW⟩)) ?_
        intro g
        have cq := fun x : FXN (FR1 wa23 (fun _ _ => True) g) => (g18.below x.belowR1).cell
        haveI : Nonempty (FXN (FR1 wa23 (fun _ _ => True) g)) := ⟨⟨_, _, FR1.start⟩⟩
        iterate 1 (refine wpM_read FR1.dep rfl (by decide) (by decide) ?_; go_big_quiet_step (fail); refine wpQuiet_nil ?_)
        refine wpM_new (by decide) rfl (by show TR1 _ _ _ 1 _; unfold TR1; rw [if_pos rfl]; intro W; simp [execOp, resolve, invoke, Act.eval, go_sem]) ?_
        simp only [Act.put, List.setIfInBounds_toArray, List.set_cons_zero, List.set_cons_succ]
        rw [show valR1 1 28 g 1 = .agg #[.int .i64 1, .int .i64 1] from rfl]
        refine wpM_new (by decide) rfl (by show TR1 _ _ _ 2 _; unfold TR1; rw [if_neg (by decide), if_pos rfl]; intro W; simp [execOp, resolve, invoke, Act.eval, go_sem]) ?_
        simp only [Act.put, List.setIfInBounds_toArray, List.set_cons_zero, List.set_cons_succ]
        rw [show valR1 1 28 g 2 = .tuple #[.agg #[.slice g.1.tA g.1.tn g.1.tc, .slice g.1.oA g.1.on g.1.oc, .slice g.1.sA g.1.sn g.1.sc], .int .i64 28] from rfl]
        iterate 3 (refine wpM_read FR1.dep rfl (by decide) (by decide) ?_; go_big_quiet_step (fail); refine wpQuiet_nil ?_)
        refine wpM_new (by decide) rfl (by show TR1 _ _ _ 6 _; unfold TR1; rw [if_neg (by decide), if_neg (by decide)]; intro W; simp [execOp, go_sem, rbM]) ?_
        simp only [Act.put, List.setIfInBounds_toArray, List.set_cons_zero, List.set_cons_succ]
        rw [show valR1 1 28 g 6 = .pointer (some ⟨g.2, 0, none⟩) from rfl]
        refine wpM_store FR1.dep (by decide) rfl 26 (.tmp 34) (.tmp 237) rfl (by rfl) (p := .pointer (some ⟨g.2, 0, none⟩)) (u := .agg #[.slice g.1.tA g.1.tn g.1.tc, .slice g.1.oA g.1.on g.1.oc, .slice g.1.sA g.1.sn g.1.sc]) (by rfl) (by rfl) [6, 2] (by kernel_rfl) (fun f W hF h0 h1 => ?_) ?_
        · obtain ⟨s1, s2, s3⟩ := hF.store1 (fun _ => RbSt.triv) (h1 6 (by simp)) (h1 2 (by simp)) h0
          refine ⟨_, ?_, s3⟩
          simp [go_sem, s1, s2, rbM, rbS3, GR.m]
        simp only [Act.put, List.setIfInBounds_toArray, List.set_cons_zero, List.set_cons_succ]
        iterate 1 (refine wpM_read FR1.dep rfl (by decide) (by decide) ?_; go_big_quiet_step (fail); refine wpQuiet_nil ?_)
        refine wpM_nil ?_
        intro wq45 hF
        obtain ⟨bW, hg, _, f11⟩ := hF
        obtain ⟨_, g11⟩ := f11 rfl
        have hgr := hg rfl
        clear f11 hg cq this
        clear g11 hgr
        replace g1 := g1.below bW
        replace g18 := g18.below bW
        replace g19 := g19.below bW
        replace g33 := g33.below bW
        replace hm := hm.below bW
        replace kx := kx.below bW
        replace B := B.trans (bW.mono hzq)
        clear bW hzq
        have c_g1 := g1.cell; have f_g1 := g1.free; have a_g1 := fun o => (g1.alloc o).cell; have d_g1 := fun o o2 => ((g1.alloc o).alloc o2).cell; have e_g1 := fun o => (g1.alloc o).free
        have c_g18 := g18.cell; have f_g18 := g18.free; have a_g18 := fun o => (g18.alloc o).cell; have d_g18 := fun o o2 => ((g18.alloc o).alloc o2).cell; have e_g18 := fun o => (g18.alloc o).free
        have c_g19 := g19.cell; have f_g19 := g19.free; have a_g19 := fun o => (g19.alloc o).cell; have d_g19 := fun o o2 => ((g19.alloc o).alloc o2).cell; have e_g19 := fun o => (g19.alloc o).free
        have c_g33 := g33.cell; have f_g33 := g33.free; have a_g33 := fun o => (g33.alloc o).cell; have d_g33 := fun o o2 => ((g33.alloc o).alloc o2).cell; have e_g33 := fun o => (g33.alloc o).free
        go_upto_region 46 with (fail)
        clear c_g1 f_g1 a_g1 d_g1 e_g1 c_g18 f_g18 a_g18 d_g18 e_g18 c_g19 f_g19 a_g19 d_g19 e_g19 c_g33 f_g33 a_g33 d_g33 e_g33
        have hzq := B.size
        refine wp_region_R1 1 2 (fun _ _ => True) (fun _ => RbSt.triv) 19 #[.agg #[.slice xa xb xc, .slice xd xe xf, .slice xg xh xi], .agg #[.int .i64 1, .int .i64 1], .int .i64 1, .pointer (some ⟨p33, 0, none⟩)] (by kernel_rfl) (by kernel_rfl) (by kernel_rfl) (by kernel_rfl) (fun W hW => toR1 (SL.out _ W (kx.below hW) ⟨_, rfl, g33.below hW⟩)) ?_
        intro g
        have cq := fun x : FXN (FR1 wq45 (fun _ _ => True) g) => (g18.below x.belowR1).cell
        haveI : Nonempty (FXN (FR1 wq45 (fun _ _ => True) g)) := ⟨⟨_, _, FR1.start⟩⟩
        iterate 1 (refine wpM_read FR1.dep rfl (by decide) (by decide) ?_; go_big_quiet_step (fail); refine wpQuiet_nil ?_)
        refine wpM_new (by decide) rfl (by show TR1 _ _ _ 1 _; unfold TR1; rw [if_pos rfl]; intro W; simp [execOp, resolve, invoke, Act.eval, go_sem]) ?_
        simp only [Act.put, List.setIfInBounds_toArray, List.set_cons_zero, List.set_cons_succ]
        rw [show valR1 1 2 g 1 = .agg #[.int .i64 1, .int .i64 1] from rfl]
        refine wpM_new (by decide) rfl (by show TR1 _ _ _ 2 _; unfold TR1; rw [if_neg (by decide), if_pos rfl]; intro W; simp [execOp, resolve, invoke, Act.eval, go_sem]) ?_
        simp only [Act.put, List.setIfInBounds_toArray, List.set_cons_zero, List.set_cons_succ]
        rw [show valR1 1 2 g 2 = .tuple #[.agg #[.slice g.1.tA g.1.tn g.1.tc, .slice g.1.oA g.1.on g.1.oc, .slice g.1.sA g.1.sn g.1.sc], .int .i64 2] from rfl]
        iterate 3 (refine wpM_read FR1.dep rfl (by decide) (by decide) ?_; go_big_quiet_step (fail); refine wpQuiet_nil ?_)
        refine wpM_new (by decide) rfl (by show TR1 _ _ _ 6 _; unfold TR1; rw [if_neg (by decide), if_neg (by decide)]; intro W; simp [execOp, go_sem, rbM]) ?_
        simp only [Act.put, List.setIfInBounds_toArray, List.set_cons_zero, List.set_cons_succ]
        rw [show valR1 1 2 g 6 = .pointer (some ⟨g.2, 0, none⟩) from rfl]
        refine wpM_store FR1.dep (by decide) rfl 26 (.tmp 36) (.tmp 243) rfl (by rfl) (p := .pointer (some ⟨g.2, 0, none⟩)) (u := .agg #[.slice g.1.tA g.1.tn g.1.tc, .slice g.1.oA g.1.on g.1.oc, .slice g.1.sA g.1.sn g.1.sc]) (by rfl) (by rfl) [6, 2] (by kernel_rfl) (fun f W hF h0 h1 => ?_) ?_
        · obtain ⟨s1, s2, s3⟩ := hF.store1 (fun _ => RbSt.triv) (h1 6 (by simp)) (h1 2 (by simp)) h0
          refine ⟨_, ?_, s3⟩
          simp [go_sem, s1, s2, rbM, rbS3, GR.m]
        simp only [Act.put, List.setIfInBounds_toArray, List.set_cons_zero, List.set_cons_succ]
        iterate 1 (refine wpM_read FR1.dep rfl (by decide) (by decide) ?_; go_big_quiet_step (fail); refine wpQuiet_nil ?_)
        refine wpM_nil ?_
        intro wq46 hF
        obtain ⟨bW, hg, _, f11⟩ := hF
        obtain ⟨_, g11⟩ := f11 rfl
        have hgr := hg rfl
        clear f11 hg cq this
        clear g11 hgr
        replace g1 := g1.below bW
        replace g18 := g18.below bW
        replace g19 := g19.below bW
        replace g33 := g33.below bW
        replace hm := hm.below bW
        replace kx := kx.below bW
        replace B := B.trans (bW.mono hzq)
        clear bW hzq
        have c_g1 := g1.cell; have f_g1 := g1.free; have a_g1 := fun o => (g1.alloc o).cell; have d_g1 := fun o o2 => ((g1.alloc o).alloc o2).cell; have e_g1 := fun o => (g1.alloc o).free
        have c_g18 := g18.cell; have f_g18 := g18.free; have a_g18 := fun o => (g18.alloc o).cell; have d_g18 := fun o o2 => ((g18.alloc o).alloc o2).cell; have e_g18 := fun o => (g18.alloc o).free
        have c_g19 := g19.cell; have f_g19 := g19.free; have a_g19 := fun o => (g19.alloc o).cell; have d_g19 := fun o o2 => ((g19.alloc o).alloc o2).cell; have e_g19 := fun o => (g19.alloc o).free
        have c_g33 := g33.cell; have f_g33 := g33.free; have a_g33 := fun o => (g33.alloc o).cell; have d_g33 := fun o o2 => ((g33.alloc o).alloc o2).cell; have e_g33 := fun o => (g33.alloc o).free
        clear SK SL
        obtain ⟨Ma, aa, ba, hRa⟩ := Root20_er nmX 1 1 0 6 nm_n.symm
        have RN := Lib.hid (hRa (.slice xa xb xc) (.slice xd xe xf) (.slice xg xh xi)); clear hRa
        go_upto_region 47 with (fail)
        clear c_g1 f_g1 a_g1 d_g1 e_g1 c_g18 f_g18 a_g18 d_g18 e_g18 c_g19 f_g19 a_g19 d_g19 e_g19 c_g33 f_g33 a_g33 d_g33 e_g33
        have hzq := B.size
        refine wp_region_R2 1 6 (fun _ _ => True) (fun _ => RbSt.triv) 20 #[.agg #[.slice xa xb xc, .slice xd xe xf, .slice xg xh xi], .agg #[.int .i64 1, .int .i64 1], .int .i64 0] (by kernel_rfl) (by kernel_rfl) (by kernel_rfl) (by kernel_rfl) (fun W hW => toR2 (RN.out W (kx.below hW))) ?_
        intro g
        have cq := fun x : FXN (FR2 wq46 (fun _ _ => True) g) => (g18.below x.belowR2).cell
        haveI : Nonempty (FXN (FR2 wq46 (fun _ _ => True) g)) := ⟨⟨_, _, FR2.start⟩⟩
        iterate 1 (refine wpM_read FR2.dep rfl (by decide) (by decide) ?_; go_big_quiet_step (fail); refine wpQuiet_nil ?_)
        refine wpM_new (by decide) rfl (by show TR2 _ _ _ 1 _; unfold TR2; rw [if_pos rfl]; intro W; simp [execOp, resolve, invoke, Act.eval, go_sem]) ?_
        simp only [Act.put, List.setIfInBounds_toArray, List.set_cons_zero, List.set_cons_succ]
        rw [show valR2 1 6 g 1 = .agg #[.int .i64 1, .int .i64 1] from rfl]
        refine wpM_new (by decide) rfl (by show TR2 _ _ _ 2 _; unfold TR2; rw [if_neg (by decide), if_pos rfl]; intro W; simp [execOp, resolve, invoke, Act.eval, go_sem]) ?_
        simp only [Act.put, List.setIfInBounds_toArray, List.set_cons_zero, List.set_cons_succ]
        rw [show valR2 1 6 g 2 = .tuple #[.agg #[.slice g.1.tA g.1.tn g.1.tc, .slice g.1.oA g.1.on g.1.oc, .slice g.1.sA g.1.sn g.1.sc], .agg #[.int .i64 g.1.c1, .int .i64 g.1.c2], .int .i64 6] from rfl]
        iterate 4 (refine wpM_read FR2.dep rfl (by decide) (by decide) ?_; go_big_quiet_step (fail); refine wpQuiet_nil ?_)
        refine wpM_new (by decide) rfl (by show TR2 _ _ _ 7 _; unfold TR2; rw [if_neg (by decide), if_neg (by decide), if_pos rfl]; intro W; simp [execOp, go_sem, rbM]) ?_
        simp only [Act.put, List.setIfInBounds_toArray, List.set_cons_zero, List.set_cons_succ]
        rw [show valR2 1 6 g 7 = .pointer (some ⟨g.2.1, 0, none⟩) from rfl]
        refine wpM_new (by decide) rfl (by show TR2 _ _ _ 8 _; unfold TR2; rw [if_neg (by decide), if_neg (by decide), if_neg (by decide)]; intro W; simp [execOp, go_sem, rbH0]) ?_
        simp only [Act.put, List.setIfInBounds_toArray, List.set_cons_zero, List.set_cons_succ]
        rw [show valR2 1 6 g 8 = .pointer (some ⟨g.2.2, 0, none⟩) from rfl]
        refine wpM_store FR2.dep (by decide) rfl 26 (.tmp 38) (.tmp 249) rfl (by rfl) (p := .pointer (some ⟨g.2.1, 0, none⟩)) (u := .agg #[.slice g.1.tA g.1.tn g.1.tc, .slice g.1.oA g.1.on g.1.oc, .slice g.1.sA g.1.sn g.1.sc]) (by rfl) (by rfl) [7, 2] (by kernel_rfl) (fun f W hF h0 h1 => ?_) ?_
        · obtain ⟨s1, s2, s3⟩ := hF.store1 (fun _ => RbSt.triv) (h1 7 (by simp)) (h1 2 (by simp)) h0
          refine ⟨_, ?_, s3⟩
          simp [go_sem, s1, s2, rbM, rbS3, GR.m]
        simp only [Act.put, List.setIfInBounds_toArray, List.set_cons_zero, List.set_cons_succ]
        refine wpM_store FR2.dep (by decide) rfl 50 (.tmp 39) (.tmp 250) rfl (by rfl) (p := .pointer (some ⟨g.2.2, 0, none⟩)) (u := .agg #[.int .i64 g.1.c1, .int .i64 g.1.c2]) (by rfl) (by rfl) [8, 2] (by kernel_rfl) (fun f W hF h0 h1 => ?_) ?_
        · obtain ⟨s1, s2, s3⟩ := hF.store2 (fun _ => RbSt.triv) (h1 8 (by simp)) (h1 2 (by simp)) h0
          refine ⟨_, ?_, s3⟩
          simp [go_sem, s1, s2, rbH0, rbS2]
        simp only [Act.put, List.setIfInBounds_toArray, List.set_cons_zero, List.set_cons_succ]
        iterate 1 (refine wpM_read FR2.dep rfl (by decide) (by decide) ?_; go_big_quiet_step (fail); refine wpQuiet_nil ?_)
        refine wpM_nil ?_
        intro wq47 hF
        obtain ⟨bW, hg, _, _, f11, f12, _⟩ := hF
        obtain ⟨_, g11⟩ := f11 rfl
        obtain ⟨_, g12⟩ := f12 rfl
        have hgr := hg rfl
        clear f11 hg cq this f12
        clear g11 hgr g12
        replace g1 := g1.below bW
        replace g18 := g18.below bW
        replace g19 := g19.below bW
        replace g33 := g33.below bW
        replace hm := hm.below bW
        replace kx := kx.below bW
        replace B := B.trans (bW.mono hzq)
        clear bW hzq
        have c_g1 := g1.cell; have f_g1 := g1.free; have a_g1 := fun o => (g1.alloc o).cell; have d_g1 := fun o o2 => ((g1.alloc o).alloc o2).cell; have e_g1 := fun o => (g1.alloc o).free
        have c_g18 := g18.cell; have f_g18 := g18.free; have a_g18 := fun o => (g18.alloc o).cell; have d_g18 := fun o o2 => ((g18.alloc o).alloc o2).cell; have e_g18 := fun o => (g18.alloc o).free
        have c_g19 := g19.cell; have f_g19 := g19.free; have a_g19 := fun o => (g19.alloc o).cell; have d_g19 := fun o o2 => ((g19.alloc o).alloc o2).cell; have e_g19 := fun o => (g19.alloc o).free
        have c_g33 := g33.cell; have f_g33 := g33.free; have a_g33 := fun o => (g33.alloc o).cell; have d_g33 := fun o o2 => ((g33.alloc o).alloc o2).cell; have e_g33 := fun o => (g33.alloc o).free
        clear RN
        obtain ⟨Mb, ab, bb, hRb⟩ := Root20_er nmX 2 1 0 42 nm_o.symm
        have RO := Lib.hid (hRb (.slice xa xb xc) (.slice xd xe xf) (.slice xg xh xi)); clear hRb
        go_wp2_with fail
        refine (RO.out _ kx).mono ?_
        rintro e wa24 ⟨t6, o6, s6, rfl, k6, b⟩
        try clear c_g1 f_g1 a_g1 d_g1 e_g1
        replace g1 := g1.below b; have c_g1 := g1.cell; have f_g1 := g1.free; have a_g1 := fun o => (g1.alloc o).cell; have d_g1 := fun o o2 => ((g1.alloc o).alloc o2).cell; have e_g1 := fun o => (g1.alloc o).free; try clear c_g18 f_g18 a_g18 d_g18 e_g18
        replace g18 := g18.below b; have c_g18 := g18.cell; have f_g18 := g18.free; have a_g18 := fun o => (g18.alloc o).cell; have d_g18 := fun o o2 => ((g18.alloc o).alloc o2).cell; have e_g18 := fun o => (g18.alloc o).free; try clear c_g19 f_g19 a_g19 d_g19 e_g19
        replace g19 := g19.below b; have c_g19 := g19.cell; have f_g19 := g19.free; have a_g19 := fun o => (g19.alloc o).cell; have d_g19 := fun o o2 => ((g19.alloc o).alloc o2).cell; have e_g19 := fun o => (g19.alloc o).free; try clear c_g33 f_g33 a_g33 d_g33 e_g33
        replace g33 := g33.below b; have c_g33 := g33.cell; have f_g33 := g33.free; have a_g33 := fun o => (g33.alloc o).cell; have d_g33 := fun o o2 => ((g33.alloc o).alloc o2).cell; have e_g33 := fun o => (g33.alloc o).free; replace hm := hm.below b; replace kx := kx.below b; replace B := B.trans (b.mono B.size); clear b
        obtain ⟨⟨pa, pb, pc, rfl⟩, ⟨pd, pe, pf, rfl⟩, ⟨pg, ph, pi, rfl⟩⟩ := k6.forms
        clear k6
        clear RO
        go_upto_region 49 with (fail)
        refine wp_gen (fun Wv => Below wa24.heap.size wa24 Wv) (((Below.refl _ wa24).alloc (by simp <;> omega) _).alloc (by simp <;> omega) _) ?_
        intro wa25 b
        try clear c_g1 f_g1 a_g1 d_g1 e_g1
        replace g1 := g1.below b; have c_g1 := g1.cell; have f_g1 := g1.free; have a_g1 := fun o => (g1.alloc o).cell; have d_g1 := fun o o2 => ((g1.alloc o).alloc o2).cell; have e_g1 := fun o => (g1.alloc o).free; try clear c_g18 f_g18 a_g18 d_g18 e_g18
        replace g18 := g18.below b; have c_g18 := g18.cell; have f_g18 := g18.free; have a_g18 := fun o => (g18.alloc o).cell; have d_g18 := fun o o2 => ((g18.alloc o).alloc o2).cell; have e_g18 := fun o => (g18.alloc o).free; try clear c_g19 f_g19 a_g19 d_g19 e_g19
        replace g19 := g19.below b; have c_g19 := g19.cell; have f_g19 := g19.free; have a_g19 := fun o => (g19.alloc o).cell; have d_g19 := fun o o2 => ((g19.alloc o).alloc o2).cell; have e_g19 := fun o => (g19.alloc o).free; try clear c_g33 f_g33 a_g33 d_g33 e_g33
        replace g33 := g33.below b; have c_g33 := g33.cell; have f_g33 := g33.free; have a_g33 := fun o => (g33.alloc o).cell; have d_g33 := fun o o2 => ((g33.alloc o).alloc o2).cell; have e_g33 := fun o => (g33.alloc o).free; replace hm := hm.below b; replace kx := kx.below b; replace B := B.trans (b.mono B.size); clear b
        have RZ := Lib.hid (fun w h => Root20_own (.slice xa xb xc) (.slice xd xe xf) (.slice xg xh xi) nmX 0 1 0 nmZ 0 3 1 nm_z.symm nm_p.symm nm_zs.symm nm_zg.symm w h)
        have hz49 := B.size
        go_upto_region 49 with (fail)
        clear c_g1 f_g1 a_g1 d_g1 e_g1 c_g18 f_g18 a_g18 d_g18 e_g18 c_g19 f_g19 a_g19 d_g19 e_g19 c_g33 f_g33 a_g33 d_g33 e_g33
        have hzq := B.size
        refine wp_region_R2 0 0 (OwnR w.heap.size nmZ 3 1) (OwnR.st w.heap.size nmZ 3 1) 20 #[.agg #[.slice xa xb xc, .slice xd xe xf, .slice xg xh xi], .agg #[.int .i64 0, .int .i64 1], .int .i64 0] (by kernel_rfl) (by kernel_rfl) (by kernel_rfl) (by kernel_rfl) (fun W hW => toR2own (Nat.le_trans hz49 hW.size) (RZ.out W (kx.below hW))) ?_
        intro g
        have cq := fun x : FXN (FR2 wa25 (OwnR w.heap.size nmZ 3 1) g) => (g18.below x.belowR2).cell
        haveI : Nonempty (FXN (FR2 wa25 (OwnR w.heap.size nmZ 3 1) g)) := ⟨⟨_, _, FR2.start⟩⟩
        iterate 1 (refine wpM_read FR2.dep rfl (by decide) (by decide) ?_; go_big_quiet_step (fail); refine wpQuiet_nil ?_)
        refine wpM_new (by decide) rfl (by show TR2 _ _ _ 1 _; unfold TR2; rw [if_pos rfl]; intro W; simp [execOp, resolve, invoke, Act.eval, go_sem]) ?_
        simp only [Act.put, List.setIfInBounds_toArray, List.set_cons_zero, List.set_cons_succ]
        rw [show valR2 0 0 g 1 = .agg #[.int .i64 0, .int .i64 1] from rfl]
        refine wpM_new (by decide) rfl (by show TR2 _ _ _ 2 _; unfold TR2; rw [if_neg (by decide), if_pos rfl]; intro W; simp [execOp, resolve, invoke, Act.eval, go_sem]) ?_
        simp only [Act.put, List.setIfInBounds_toArray, List.set_cons_zero, List.set_cons_succ]
        rw [show valR2 0 0 g 2 = .tuple #[.agg #[.slice g.1.tA g.1.tn g.1.tc, .slice g.1.oA g.1.on g.1.oc, .slice g.1.sA g.1.sn g.1.sc], .agg #[.int .i64 g.1.c1, .int .i64 g.1.c2], .int .i64 0] from rfl]
        iterate 4 (refine wpM_read FR2.dep rfl (by decide) (by decide) ?_; go_big_quiet_step (fail); refine wpQuiet_nil ?_)
        refine wpM_new (by decide) rfl (by show TR2 _ _ _ 7 _; unfold TR2; rw [if_neg (by decide), if_neg (by decide), if_pos rfl]; intro W; simp [execOp, go_sem, rbM]) ?_
        simp only [Act.put, List.setIfInBounds_toArray, List.set_cons_zero, List.set_cons_succ]
        rw [show valR2 0 0 g 7 = .pointer (some ⟨g.2.1, 0, none⟩) from rfl]
        refine wpM_new (by decide) rfl (by show TR2 _ _ _ 8 _; unfold TR2; rw [if_neg (by decide), if_neg (by decide), if_neg (by decide)]; intro W; simp [execOp, go_sem, rbH0]) ?_
        simp only [Act.put, List.setIfInBounds_toArray, List.set_cons_zero, List.set_cons_succ]
        rw [show valR2 0 0 g 8 = .pointer (some ⟨g.2.2, 0, none⟩) from rfl]
        refine wpM_store FR2.dep (by decide) rfl 26 (.tmp 44) (.tmp 263) rfl (by rfl) (p := .pointer (some ⟨g.2.1, 0, none⟩)) (u := .agg #[.slice g.1.tA g.1.tn g.1.tc, .slice g.1.oA g.1.on g.1.oc, .slice g.1.sA g.1.sn g.1.sc]) (by rfl) (by rfl) [7, 2] (by kernel_rfl) (fun f W hF h0 h1 => ?_) ?_
        · obtain ⟨s1, s2, s3⟩ := hF.store1 (OwnR.st w.heap.size nmZ 3 1) (h1 7 (by simp)) (h1 2 (by simp)) h0
          refine ⟨_, ?_, s3⟩
          simp [go_sem, s1, s2, rbM, rbS3, GR.m]
        simp only [Act.put, List.setIfInBounds_toArray, List.set_cons_zero, List.set_cons_succ]
        refine wpM_store FR2.dep (by decide) rfl 50 (.tmp 45) (.tmp 264) rfl (by rfl) (p := .pointer (some ⟨g.2.2, 0, none⟩)) (u := .agg #[.int .i64 g.1.c1, .int .i64 g.1.c2]) (by rfl) (by rfl) [8, 2] (by kernel_rfl) (fun f W hF h0 h1 => ?_) ?_
        · obtain ⟨s1, s2, s3⟩ := hF.store2 (OwnR.st w.heap.size nmZ 3 1) (h1 8 (by simp)) (h1 2 (by simp)) h0
          refine ⟨_, ?_, s3⟩
          simp [go_sem, s1, s2, rbH0, rbS2]
        simp only [Act.put, List.setIfInBounds_toArray, List.set_cons_zero, List.set_cons_succ]
        iterate 1 (refine wpM_read FR2.dep rfl (by decide) (by decide) ?_; go_big_quiet_step (fail); refine wpQuiet_nil ?_)
        refine wpM_nil ?_
        intro wq49 hF
        obtain ⟨bW, hg, _, _, f11, f12, _⟩ := hF
        obtain ⟨_, g11⟩ := f11 rfl
        obtain ⟨_, g12⟩ := f12 rfl
        have hgr := hg rfl
        clear f11 hg cq this f12
        obtain ⟨⟨za, zb, zc, zd, ze, zf, zg, zh, zi, zc1, zc2⟩, zp, zq⟩ := g
        obtain ⟨kz, e1, e2⟩ := hgr
        dsimp only at e1 e2
        subst e1; subst e2
        replace g11 : Bx wq49 zp 26 #[.slice za zb zc, .slice zd ze zf, .slice zg zh zi] := g11
        have g44 := g11; clear g11
        dsimp only [GR.m] at kz
        replace g12 : Bx wq49 zq 50 #[.int .i64 3, .int .i64 1] := g12
        have g45 := g12; clear g12
        replace g1 := g1.below bW
        replace g18 := g18.below bW
        replace g19 := g19.below bW
        replace g33 := g33.below bW
        replace hm := hm.below bW
        replace kx := kx.below bW
        replace B := B.trans (bW.mono hzq)
        clear bW hzq
        have c_g1 := g1.cell; have f_g1 := g1.free; have a_g1 := fun o => (g1.alloc o).cell; have d_g1 := fun o o2 => ((g1.alloc o).alloc o2).cell; have e_g1 := fun o => (g1.alloc o).free
        have c_g18 := g18.cell; have f_g18 := g18.free; have a_g18 := fun o => (g18.alloc o).cell; have d_g18 := fun o o2 => ((g18.alloc o).alloc o2).cell; have e_g18 := fun o => (g18.alloc o).free
        have c_g19 := g19.cell; have f_g19 := g19.free; have a_g19 := fun o => (g19.alloc o).cell; have d_g19 := fun o o2 => ((g19.alloc o).alloc o2).cell; have e_g19 := fun o => (g19.alloc o).free
        have c_g33 := g33.cell; have f_g33 := g33.free; have a_g33 := fun o => (g33.alloc o).cell; have d_g33 := fun o o2 => ((g33.alloc o).alloc o2).cell; have e_g33 := fun o => (g33.alloc o).free
        have c_g44 := g44.cell; have f_g44 := g44.free; have a_g44 := fun o => (g44.alloc o).cell; have d_g44 := fun o o2 => ((g44.alloc o).alloc o2).cell; have e_g44 := fun o => (g44.alloc o).free
        have c_g45 := g45.cell; have f_g45 := g45.free; have a_g45 := fun o => (g45.alloc o).cell; have d_g45 := fun o o2 => ((g45.alloc o).alloc o2).cell; have e_g45 := fun o => (g45.alloc o).free
        clear RZ hz49
        have TT := Lib.hid (fun w h => TwinM_any (.slice v1A (1 + 1) v1c) (.slice o0A o0n o0c) (.slice s0A s0n s0c) nmM (small_chk nmM_chk) w h)
        go_wp2_with fail
        refine (TT.out _ hm).mono ?_
        rintro e w51 ⟨t', o', s', rfl, om, b⟩
        obtain ⟨⟨fa, fb, fc, rfl⟩, ⟨fd, fe, ff, rfl⟩, _⟩ := om.rd.forms
        obtain ⟨gF, nF, fC, ef, ef2⟩ := om.s.form (by decide)
        rw [ef2, show nmM.slots.length = 16 from rfl] at ef; subst ef
        have hgF := (om.s.lt gF rfl).1
        have hz50 := B.size
        have HPK := Lib.hid (And.intro g18 (And.intro g19 (And.intro g33 (And.intro g44 (And.intro g45 (And.intro kx (And.intro kz B)))))))
        clear TT hm B g18 g19 g33 g44 g45 kx kz g1 c_g1 f_g1 a_g1 d_g1 e_g1 c_g18 f_g18 a_g18 d_g18 e_g18 c_g19 f_g19 a_g19 d_g19 e_g19 c_g33 f_g33 a_g33 d_g33 e_g33 c_g44 f_g44 a_g44 d_g44 e_g44 c_g45 f_g45 a_g45 d_g45 e_g45
        have B := b; clear b
        go_upto_region 51 with (fail)
        refine wp_gen (fun Wv => Bx Wv (w51.heap.size) (26) (#[.slice fa fb fc, .slice fd fe ff, .slice (some ⟨gF, 0, none⟩) 16 fC]) ∧ Below w51.heap.size w51 Wv) ⟨((Bx.at_ (by simp))), ((Below.refl _ w51).alloc (by simp <;> omega) _)⟩ ?_
        rintro wa26 ⟨g47, b⟩
        replace om := om.below b; replace B := B.trans (b.mono B.size); clear b
        have c_g47 := g47.cell; have f_g47 := g47.free; have a_g47 := fun o => (g47.alloc o).cell; have d_g47 := fun o o2 => ((g47.alloc o).alloc o2).cell; have e_g47 := fun o => (g47.alloc o).free
        obtain ⟨p47, hp47⟩ : ∃ p, p = w51.heap.size := ⟨_, rfl⟩
        rw [← hp47] at g47 c_g47 f_g47 a_g47 d_g47 e_g47 ⊢
        clear hp47
        have ne47 : gF ≠ p47 := by
          rcases own_not_bx om.s g47 (by decide) with h | h
          · simp [Value.ownBlock] at h
          · intro e; exact h (by simp [Value.ownBlock, e])
        rw [show nmM = (⟨nmM.types, nmM.objs, nmS 2⟩ : Mo) by rw [← nm_s2]; rfl] at om
        have HL := Lib.hid (And.intro om (And.intro g47 B))
        clear om g47 B c_g47 f_g47 a_g47 d_g47 e_g47
        go_wp2
        go_loopg [48] 14 (fun gg i wr2 => ∃ n : Nat, 2 ≤ n ∧ n ≤ 16 ∧ gg = 16 - n ∧ i = .int .i64 n ∧ Hid (OwnM wr2 wq49.heap.size 48 (.slice fa fb fc) (.slice fd fe ff) (.slice (some ⟨gF, 0, none⟩) 16 fC) ⟨nmM.types, nmM.objs, nmS n⟩ ∧ Bx wr2 p47 26 #[.slice fa fb fc, .slice fd fe ff, .slice (some ⟨gF, 0, none⟩) 16 fC] ∧ Below wq49.heap.size wq49 wr2))
        case atStart => exact ⟨2, by omega, by omega, by omega, rfl, HL⟩
        case round =>
          clear HL
          obtain ⟨n, hn2, hn16, rfl, rfl, hh⟩ := hrel
          obtain ⟨om, g47, B⟩ := hh.out
          by_cases hlt : n < 16
          · obtain ⟨ix, m0, m1, m2⟩ := OwnS.cells om.s (nmS_at n hlt hn2)
            dsimp only at m0 m1 m2
            have HP := OwnS.put3 (k := n) om.s (by show n < (nmS n).length; rw [nmS_len n hn2 hn16]; exact hlt) ⟨2147483647, false, 0⟩
            have fz := HP.2.2.2.2
            have om2 := OwnM.slots om HP.2.1 HP.1
            dsimp only at om2
            rw [nm_step n hlt hn2] at om2
            have HR := Lib.hid (And.intro om2 (And.intro (g47.grown HP.2.1 (.inr (fun e => ne47 (by injection e)))) (B.grown HP.2.1 B.size (fun k hk => by injection hk with hk; rw [← hk]; exact hgF))))
            have c_47 := g47.cell
            clear om g47 B HP om2 hh
            go_wp2
            go_roundg (16 - (n + 1))
            case measure => omega
            case rel => exact ⟨n + 1, by omega, by omega, by omega, by go_num, HR⟩
          · obtain rfl : n = 16 := by omega
            have kf : Mod wr (.slice fa fb fc) (.slice fd fe ff) (.slice (some ⟨gF, 0, none⟩) 16 fC) nmF := om.rd
            obtain ⟨g18, g19, g33, g44, g45, kx, kz, B0⟩ := HPK.out
            clear om hh HPK
            replace g18 := g18.below B
            replace g19 := g19.below B
            replace g33 := g33.below B
            replace g44 := g44.below B
            replace g45 := g45.below B
            replace kx := kx.below B
            replace kz := kz.below B
            replace B := B0.trans (B.mono hz50)
            clear B0
            have c_g18 := g18.cell; have f_g18 := g18.free; have a_g18 := fun o => (g18.alloc o).cell; have d_g18 := fun o o2 => ((g18.alloc o).alloc o2).cell; have e_g18 := fun o => (g18.alloc o).free
            have c_g19 := g19.cell; have f_g19 := g19.free; have a_g19 := fun o => (g19.alloc o).cell; have d_g19 := fun o o2 => ((g19.alloc o).alloc o2).cell; have e_g19 := fun o => (g19.alloc o).free
            have c_g33 := g33.cell; have f_g33 := g33.free; have a_g33 := fun o => (g33.alloc o).cell; have d_g33 := fun o o2 => ((g33.alloc o).alloc o2).cell; have e_g33 := fun o => (g33.alloc o).free
            have c_g44 := g44.cell; have f_g44 := g44.free; have a_g44 := fun o => (g44.alloc o).cell; have d_g44 := fun o o2 => ((g44.alloc o).alloc o2).cell; have e_g44 := fun o => (g44.alloc o).free
            have c_g45 := g45.cell; have f_g45 := g45.free; have a_g45 := fun o => (g45.alloc o).cell; have d_g45 := fun o o2 => ((g45.alloc o).alloc o2).cell; have e_g45 := fun o => (g45.alloc o).free
            have c_g47 := g47.cell; have f_g47 := g47.free; have a_g47 := fun o => (g47.alloc o).cell; have d_g47 := fun o o2 => ((g47.alloc o).alloc o2).cell; have e_g47 := fun o => (g47.alloc o).free
            obtain ⟨Mq, aq, bq, hAq⟩ := Alloc20_er nmF 0 23 nm_q.symm
            have AQ := Lib.hid (hAq (.slice fa fb fc) (.slice fd fe ff) (.slice (some ⟨gF, 0, none⟩) 16 fC)); clear hAq
            go_wp2_with fail
            refine (AQ.out _ kf).mono ?_
            rintro e wa27 ⟨t7, o7, s7, rfl, k7, b⟩
            try clear c_g18 f_g18 a_g18 d_g18 e_g18
            replace g18 := g18.below b; have c_g18 := g18.cell; have f_g18 := g18.free; have a_g18 := fun o => (g18.alloc o).cell; have d_g18 := fun o o2 => ((g18.alloc o).alloc o2).cell; have e_g18 := fun o => (g18.alloc o).free; try clear c_g19 f_g19 a_g19 d_g19 e_g19
            replace g19 := g19.below b; have c_g19 := g19.cell; have f_g19 := g19.free; have a_g19 := fun o => (g19.alloc o).cell; have d_g19 := fun o o2 => ((g19.alloc o).alloc o2).cell; have e_g19 := fun o => (g19.alloc o).free; try clear c_g33 f_g33 a_g33 d_g33 e_g33
            replace g33 := g33.below b; have c_g33 := g33.cell; have f_g33 := g33.free; have a_g33 := fun o => (g33.alloc o).cell; have d_g33 := fun o o2 => ((g33.alloc o).alloc o2).cell; have e_g33 := fun o => (g33.alloc o).free; try clear c_g44 f_g44 a_g44 d_g44 e_g44
            replace g44 := g44.below b; have c_g44 := g44.cell; have f_g44 := g44.free; have a_g44 := fun o => (g44.alloc o).cell; have d_g44 := fun o o2 => ((g44.alloc o).alloc o2).cell; have e_g44 := fun o => (g44.alloc o).free; try clear c_g45 f_g45 a_g45 d_g45 e_g45
            replace g45 := g45.below b; have c_g45 := g45.cell; have f_g45 := g45.free; have a_g45 := fun o => (g45.alloc o).cell; have d_g45 := fun o o2 => ((g45.alloc o).alloc o2).cell; have e_g45 := fun o => (g45.alloc o).free; try clear c_g47 f_g47 a_g47 d_g47 e_g47
            replace g47 := g47.below b; have c_g47 := g47.cell; have f_g47 := g47.free; have a_g47 := fun o => (g47.alloc o).cell; have d_g47 := fun o o2 => ((g47.alloc o).alloc o2).cell; have e_g47 := fun o => (g47.alloc o).free; replace kx := kx.below b; replace kz := kz.below b; replace kf := kf.below b; replace B := B.trans (b.mono B.size); clear b
            obtain ⟨⟨pa, pb, pc, rfl⟩, ⟨pd, pe, pf, rfl⟩, ⟨pg, ph, pi, rfl⟩⟩ := k7.forms
            clear k7
            clear AQ
            go_upto_region 56 with (fail)
            refine wp_gen (fun Wv => Below wa27.heap.size wa27 Wv) (((Below.refl _ wa27).alloc (by simp <;> omega) _).alloc (by simp <;> omega) _) ?_
            intro wa28 b
            try clear c_g18 f_g18 a_g18 d_g18 e_g18
            replace g18 := g18.below b; have c_g18 := g18.cell; have f_g18 := g18.free; have a_g18 := fun o => (g18.alloc o).cell; have d_g18 := fun o o2 => ((g18.alloc o).alloc o2).cell; have e_g18 := fun o => (g18.alloc o).free; try clear c_g19 f_g19 a_g19 d_g19 e_g19
            replace g19 := g19.below b; have c_g19 := g19.cell; have f_g19 := g19.free; have a_g19 := fun o => (g19.alloc o).cell; have d_g19 := fun o o2 => ((g19.alloc o).alloc o2).cell; have e_g19 := fun o => (g19.alloc o).free; try clear c_g33 f_g33 a_g33 d_g33 e_g33
            replace g33 := g33.below b; have c_g33 := g33.cell; have f_g33 := g33.free; have a_g33 := fun o => (g33.alloc o).cell; have d_g33 := fun o o2 => ((g33.alloc o).alloc o2).cell; have e_g33 := fun o => (g33.alloc o).free; try clear c_g44 f_g44 a_g44 d_g44 e_g44
            replace g44 := g44.below b; have c_g44 := g44.cell; have f_g44 := g44.free; have a_g44 := fun o => (g44.alloc o).cell; have d_g44 := fun o o2 => ((g44.alloc o).alloc o2).cell; have e_g44 := fun o => (g44.alloc o).free; try clear c_g45 f_g45 a_g45 d_g45 e_g45
            replace g45 := g45.below b; have c_g45 := g45.cell; have f_g45 := g45.free; have a_g45 := fun o => (g45.alloc o).cell; have d_g45 := fun o o2 => ((g45.alloc o).alloc o2).cell; have e_g45 := fun o => (g45.alloc o).free; try clear c_g47 f_g47 a_g47 d_g47 e_g47
            replace g47 := g47.below b; have c_g47 := g47.cell; have f_g47 := g47.free; have a_g47 := fun o => (g47.alloc o).cell; have d_g47 := fun o o2 => ((g47.alloc o).alloc o2).cell; have e_g47 := fun o => (g47.alloc o).free; replace kx := kx.below b; replace kz := kz.below b; replace kf := kf.below b; replace B := B.trans (b.mono B.size); clear b
            obtain ⟨Mr, ar, br, hRr⟩ := Root20_er nmF 0 1 0 23 nm_s.symm
            have RF := Lib.hid (hRr (.slice fa fb fc) (.slice fd fe ff) (.slice (some ⟨gF, 0, none⟩) 16 fC)); clear hRr
            go_upto_region 56 with (fail)
            clear c_g18 f_g18 a_g18 d_g18 e_g18 c_g19 f_g19 a_g19 d_g19 e_g19 c_g33 f_g33 a_g33 d_g33 e_g33 c_g44 f_g44 a_g44 d_g44 e_g44 c_g45 f_g45 a_g45 d_g45 e_g45 c_g47 f_g47 a_g47 d_g47 e_g47
            have hzq := B.size
            refine wp_region_R2 0 23 (fun _ _ => True) (fun _ => RbSt.triv) 20 #[.agg #[.slice fa fb fc, .slice fd fe ff, .slice (some ⟨gF, 0, none⟩) 16 fC], .agg #[.int .i64 0, .int .i64 1], .int .i64 0] (by kernel_rfl) (by kernel_rfl) (by kernel_rfl) (by kernel_rfl) (fun W hW => toR2 (RF.out W (kf.below hW))) ?_
            intro g
            have cq := fun x : FXN (FR2 wa28 (fun _ _ => True) g) => (g47.below x.belowR2).cell
            haveI : Nonempty (FXN (FR2 wa28 (fun _ _ => True) g)) := ⟨⟨_, _, FR2.start⟩⟩
            iterate 1 (refine wpM_read FR2.dep rfl (by decide) (by decide) ?_; go_big_quiet_step (fail); refine wpQuiet_nil ?_)
            refine wpM_new (by decide) rfl (by show TR2 _ _ _ 1 _; unfold TR2; rw [if_pos rfl]; intro W; simp [execOp, resolve, invoke, Act.eval, go_sem]) ?_
            simp only [Act.put, List.setIfInBounds_toArray, List.set_cons_zero, List.set_cons_succ]
            rw [show valR2 0 23 g 1 = .agg #[.int .i64 0, .int .i64 1] from rfl]
            refine wpM_new (by decide) rfl (by show TR2 _ _ _ 2 _; unfold TR2; rw [if_neg (by decide), if_pos rfl]; intro W; simp [execOp, resolve, invoke, Act.eval, go_sem]) ?_
            simp only [Act.put, List.setIfInBounds_toArray, List.set_cons_zero, List.set_cons_succ]
            rw [show valR2 0 23 g 2 = .tuple #[.agg #[.slice g.1.tA g.1.tn g.1.tc, .slice g.1.oA g.1.on g.1.oc, .slice g.1.sA g.1.sn g.1.sc], .agg #[.int .i64 g.1.c1, .int .i64 g.1.c2], .int .i64 23] from rfl]
            iterate 4 (refine wpM_read FR2.dep rfl (by decide) (by decide) ?_; go_big_quiet_step (fail); refine wpQuiet_nil ?_)
            refine wpM_new (by decide) rfl (by show TR2 _ _ _ 7 _; unfold TR2; rw [if_neg (by decide), if_neg (by decide), if_pos rfl]; intro W; simp [execOp, go_sem, rbM]) ?_
            simp only [Act.put, List.setIfInBounds_toArray, List.set_cons_zero, List.set_cons_succ]
            rw [show valR2 0 23 g 7 = .pointer (some ⟨g.2.1, 0, none⟩) from rfl]
            refine wpM_new (by decide) rfl (by show TR2 _ _ _ 8 _; unfold TR2; rw [if_neg (by decide), if_neg (by decide), if_neg (by decide)]; intro W; simp [execOp, go_sem, rbH0]) ?_
            simp only [Act.put, List.setIfInBounds_toArray, List.set_cons_zero, List.set_cons_succ]
            rw [show valR2 0 23 g 8 = .pointer (some ⟨g.2.2, 0, none⟩) from rfl]
            refine wpM_store FR2.dep (by decide) rfl 26 (.tmp 52) (.tmp 287) rfl (by rfl) (p := .pointer (some ⟨g.2.1, 0, none⟩)) (u := .agg #[.slice g.1.tA g.1.tn g.1.tc, .slice g.1.oA g.1.on g.1.oc, .slice g.1.sA g.1.sn g.1.sc]) (by rfl) (by rfl) [7, 2] (by kernel_rfl) (fun f W hF h0 h1 => ?_) ?_
            · obtain ⟨s1, s2, s3⟩ := hF.store1 (fun _ => RbSt.triv) (h1 7 (by simp)) (h1 2 (by simp)) h0
              refine ⟨_, ?_, s3⟩
              simp [go_sem, s1, s2, rbM, rbS3, GR.m]
            simp only [Act.put, List.setIfInBounds_toArray, List.set_cons_zero, List.set_cons_succ]
            refine wpM_store FR2.dep (by decide) rfl 50 (.tmp 53) (.tmp 288) rfl (by rfl) (p := .pointer (some ⟨g.2.2, 0, none⟩)) (u := .agg #[.int .i64 g.1.c1, .int .i64 g.1.c2]) (by rfl) (by rfl) [8, 2] (by kernel_rfl) (fun f W hF h0 h1 => ?_) ?_
            · obtain ⟨s1, s2, s3⟩ := hF.store2 (fun _ => RbSt.triv) (h1 8 (by simp)) (h1 2 (by simp)) h0
              refine ⟨_, ?_, s3⟩
              simp [go_sem, s1, s2, rbH0, rbS2]
            simp only [Act.put, List.setIfInBounds_toArray, List.set_cons_zero, List.set_cons_succ]
            iterate 1 (refine wpM_read FR2.dep rfl (by decide) (by decide) ?_; go_big_quiet_step (fail); refine wpQuiet_nil ?_)
            refine wpM_nil ?_
            intro wq56 hF
            obtain ⟨bW, hg, _, _, f11, f12, _⟩ := hF
            obtain ⟨_, g11⟩ := f11 rfl
            obtain ⟨_, g12⟩ := f12 rfl
            have hgr := hg rfl
            clear f11 hg cq this f12
            clear g11 hgr g12
            replace g18 := g18.below bW
            replace g19 := g19.below bW
            replace g33 := g33.below bW
            replace g44 := g44.below bW
            replace g45 := g45.below bW
            replace g47 := g47.below bW
            replace kx := kx.below bW
            replace kz := kz.below bW
            replace kf := kf.below bW
            replace B := B.trans (bW.mono hzq)
            clear bW hzq
            have c_g18 := g18.cell; have f_g18 := g18.free; have a_g18 := fun o => (g18.alloc o).cell; have d_g18 := fun o o2 => ((g18.alloc o).alloc o2).cell; have e_g18 := fun o => (g18.alloc o).free
            have c_g19 := g19.cell; have f_g19 := g19.free; have a_g19 := fun o => (g19.alloc o).cell; have d_g19 := fun o o2 => ((g19.alloc o).alloc o2).cell; have e_g19 := fun o => (g19.alloc o).free
            have c_g33 := g33.cell; have f_g33 := g33.free; have a_g33 := fun o => (g33.alloc o).cell; have d_g33 := fun o o2 => ((g33.alloc o).alloc o2).cell; have e_g33 := fun o => (g33.alloc o).free
            have c_g44 := g44.cell; have f_g44 := g44.free; have a_g44 := fun o => (g44.alloc o).cell; have d_g44 := fun o o2 => ((g44.alloc o).alloc o2).cell; have e_g44 := fun o => (g44.alloc o).free
            have c_g45 := g45.cell; have f_g45 := g45.free; have a_g45 := fun o => (g45.alloc o).cell; have d_g45 := fun o o2 => ((g45.alloc o).alloc o2).cell; have e_g45 := fun o => (g45.alloc o).free
            have c_g47 := g47.cell; have f_g47 := g47.free; have a_g47 := fun o => (g47.alloc o).cell; have d_g47 := fun o o2 => ((g47.alloc o).alloc o2).cell; have e_g47 := fun o => (g47.alloc o).free
            clear RF
            clear g47 c_g47 f_g47 a_g47 d_g47 e_g47
            clear kf
            obtain ⟨Md, hDd⟩ := Drop20_er nmX 16 1 2 nm_t.symm
            have DD := Lib.hid (hDd (.slice xa xb xc) (.slice xd xe xf) (.slice xg xh xi)); clear hDd
            go_wp2_with fail
            refine (DD.out _ kx).mono ?_
            rintro e wa29 ⟨t8, o8, s8, rfl, k8, b⟩
            try clear c_g18 f_g18 a_g18 d_g18 e_g18
            replace g18 := g18.below b; have c_g18 := g18.cell; have f_g18 := g18.free; have a_g18 := fun o => (g18.alloc o).cell; have d_g18 := fun o o2 => ((g18.alloc o).alloc o2).cell; have e_g18 := fun o => (g18.alloc o).free; try clear c_g19 f_g19 a_g19 d_g19 e_g19
            replace g19 := g19.below b; have c_g19 := g19.cell; have f_g19 := g19.free; have a_g19 := fun o => (g19.alloc o).cell; have d_g19 := fun o o2 => ((g19.alloc o).alloc o2).cell; have e_g19 := fun o => (g19.alloc o).free; try clear c_g33 f_g33 a_g33 d_g33 e_g33
            replace g33 := g33.below b; have c_g33 := g33.cell; have f_g33 := g33.free; have a_g33 := fun o => (g33.alloc o).cell; have d_g33 := fun o o2 => ((g33.alloc o).alloc o2).cell; have e_g33 := fun o => (g33.alloc o).free; try clear c_g44 f_g44 a_g44 d_g44 e_g44
            replace g44 := g44.below b; have c_g44 := g44.cell; have f_g44 := g44.free; have a_g44 := fun o => (g44.alloc o).cell; have d_g44 := fun o o2 => ((g44.alloc o).alloc o2).cell; have e_g44 := fun o => (g44.alloc o).free; try clear c_g45 f_g45 a_g45 d_g45 e_g45
            replace g45 := g45.below b; have c_g45 := g45.cell; have f_g45 := g45.free; have a_g45 := fun o => (g45.alloc o).cell; have d_g45 := fun o o2 => ((g45.alloc o).alloc o2).cell; have e_g45 := fun o => (g45.alloc o).free; replace kx := kx.below b; replace kz := kz.below b; replace B := B.trans (b.mono B.size); clear b
            obtain ⟨⟨pa, pb, pc, rfl⟩, ⟨pd, pe, pf, rfl⟩, ⟨pg, ph, pi, rfl⟩⟩ := k8.forms
            clear k8
            clear DD
            go_upto_region 58 with (fail)
            refine wp_gen (fun Wv => Below wa29.heap.size wa29 Wv) ((Below.refl _ wa29).alloc (by simp <;> omega) _) ?_
            intro wa30 b
            try clear c_g18 f_g18 a_g18 d_g18 e_g18
            replace g18 := g18.below b; have c_g18 := g18.cell; have f_g18 := g18.free; have a_g18 := fun o => (g18.alloc o).cell; have d_g18 := fun o o2 => ((g18.alloc o).alloc o2).cell; have e_g18 := fun o => (g18.alloc o).free; try clear c_g19 f_g19 a_g19 d_g19 e_g19
            replace g19 := g19.below b; have c_g19 := g19.cell; have f_g19 := g19.free; have a_g19 := fun o => (g19.alloc o).cell; have d_g19 := fun o o2 => ((g19.alloc o).alloc o2).cell; have e_g19 := fun o => (g19.alloc o).free; try clear c_g33 f_g33 a_g33 d_g33 e_g33
            replace g33 := g33.below b; have c_g33 := g33.cell; have f_g33 := g33.free; have a_g33 := fun o => (g33.alloc o).cell; have d_g33 := fun o o2 => ((g33.alloc o).alloc o2).cell; have e_g33 := fun o => (g33.alloc o).free; try clear c_g44 f_g44 a_g44 d_g44 e_g44
            replace g44 := g44.below b; have c_g44 := g44.cell; have f_g44 := g44.free; have a_g44 := fun o => (g44.alloc o).cell; have d_g44 := fun o o2 => ((g44.alloc o).alloc o2).cell; have e_g44 := fun o => (g44.alloc o).free; try clear c_g45 f_g45 a_g45 d_g45 e_g45
            replace g45 := g45.below b; have c_g45 := g45.cell; have f_g45 := g45.free; have a_g45 := fun o => (g45.alloc o).cell; have d_g45 := fun o o2 => ((g45.alloc o).alloc o2).cell; have e_g45 := fun o => (g45.alloc o).free; replace kx := kx.below b; replace kz := kz.below b; replace B := B.trans (b.mono B.size); clear b
            obtain ⟨Mu, hFu⟩ := Free20_er nmX 0 2 28 nm_u.symm
            have FU := Lib.hid (hFu (.slice xa xb xc) (.slice xd xe xf) (.slice xg xh xi)); clear hFu
            go_wp2_with fail
            refine (FU.out _ kx).mono ?_
            rintro e wa31 ⟨t9, o9, s9, rfl, k9, b⟩
            try clear c_g18 f_g18 a_g18 d_g18 e_g18
            replace g18 := g18.below b; have c_g18 := g18.cell; have f_g18 := g18.free; have a_g18 := fun o => (g18.alloc o).cell; have d_g18 := fun o o2 => ((g18.alloc o).alloc o2).cell; have e_g18 := fun o => (g18.alloc o).free; try clear c_g19 f_g19 a_g19 d_g19 e_g19
            replace g19 := g19.below b; have c_g19 := g19.cell; have f_g19 := g19.free; have a_g19 := fun o => (g19.alloc o).cell; have d_g19 := fun o o2 => ((g19.alloc o).alloc o2).cell; have e_g19 := fun o => (g19.alloc o).free; try clear c_g33 f_g33 a_g33 d_g33 e_g33
            replace g33 := g33.below b; have c_g33 := g33.cell; have f_g33 := g33.free; have a_g33 := fun o => (g33.alloc o).cell; have d_g33 := fun o o2 => ((g33.alloc o).alloc o2).cell; have e_g33 := fun o => (g33.alloc o).free; try clear c_g44 f_g44 a_g44 d_g44 e_g44
            replace g44 := g44.below b; have c_g44 := g44.cell; have f_g44 := g44.free; have a_g44 := fun o => (g44.alloc o).cell; have d_g44 := fun o o2 => ((g44.alloc o).alloc o2).cell; have e_g44 := fun o => (g44.alloc o).free; try clear c_g45 f_g45 a_g45 d_g45 e_g45
            replace g45 := g45.below b; have c_g45 := g45.cell; have f_g45 := g45.free; have a_g45 := fun o => (g45.alloc o).cell; have d_g45 := fun o o2 => ((g45.alloc o).alloc o2).cell; have e_g45 := fun o => (g45.alloc o).free; replace kx := kx.below b; replace kz := kz.below b; replace B := B.trans (b.mono B.size); clear b
            obtain ⟨⟨qa, qb, qc, rfl⟩, ⟨qd, qe, qf, rfl⟩, ⟨qg, qh, qi, rfl⟩⟩ := k9.forms
            clear k9
            clear FU
            go_upto_region 59 with (fail)
            refine wp_gen (fun Wv => Below wa31.heap.size wa31 Wv) ((Below.refl _ wa31).alloc (by simp <;> omega) _) ?_
            intro wa32 b
            try clear c_g18 f_g18 a_g18 d_g18 e_g18
            replace g18 := g18.below b; have c_g18 := g18.cell; have f_g18 := g18.free; have a_g18 := fun o => (g18.alloc o).cell; have d_g18 := fun o o2 => ((g18.alloc o).alloc o2).cell; have e_g18 := fun o => (g18.alloc o).free; try clear c_g19 f_g19 a_g19 d_g19 e_g19
            replace g19 := g19.below b; have c_g19 := g19.cell; have f_g19 := g19.free; have a_g19 := fun o => (g19.alloc o).cell; have d_g19 := fun o o2 => ((g19.alloc o).alloc o2).cell; have e_g19 := fun o => (g19.alloc o).free; try clear c_g33 f_g33 a_g33 d_g33 e_g33
            replace g33 := g33.below b; have c_g33 := g33.cell; have f_g33 := g33.free; have a_g33 := fun o => (g33.alloc o).cell; have d_g33 := fun o o2 => ((g33.alloc o).alloc o2).cell; have e_g33 := fun o => (g33.alloc o).free; try clear c_g44 f_g44 a_g44 d_g44 e_g44
            replace g44 := g44.below b; have c_g44 := g44.cell; have f_g44 := g44.free; have a_g44 := fun o => (g44.alloc o).cell; have d_g44 := fun o o2 => ((g44.alloc o).alloc o2).cell; have e_g44 := fun o => (g44.alloc o).free; try clear c_g45 f_g45 a_g45 d_g45 e_g45
            replace g45 := g45.below b; have c_g45 := g45.cell; have f_g45 := g45.free; have a_g45 := fun o => (g45.alloc o).cell; have d_g45 := fun o o2 => ((g45.alloc o).alloc o2).cell; have e_g45 := fun o => (g45.alloc o).free; replace kx := kx.below b; replace kz := kz.below b; replace B := B.trans (b.mono B.size); clear b
            clear g18 c_g18 f_g18 a_g18 d_g18 e_g18
            clear kx
            clear g33 c_g33 f_g33 a_g33 d_g33 e_g33
            have hz58 := B.size
            have HZ := Lib.hid (And.intro g19 (And.intro g44 (And.intro g45 (And.intro kz B))))
            have B5 := Below.refl wa32.heap.size wa32
            clear kz g19 g44 g45 c_g19 f_g19 a_g19 d_g19 e_g19 c_g44 f_g44 a_g44 d_g44 e_g44 c_g45 f_g45 a_g45 d_g45 e_g45
            go_wp2_with fail
            refine (example20_any _).mono ?_
            rintro e wa33 ⟨t10, o10, s10, rfl, om, b⟩
            replace B5 := B5.trans (b.mono B5.size); replace B := B.trans (b.mono B.size); clear b
            obtain ⟨⟨ea, eb, ec, rfl⟩, ⟨ed, ee, ef, rfl⟩, ⟨eg, eh, ei, rfl⟩⟩ := om.rd.forms
            go_upto_region 60 with (fail)
            refine wp_gen (fun Wv => Bx Wv (wa33.heap.size) (26) (#[.slice ea eb ec, .slice ed ee ef, .slice eg eh ei]) ∧ Below wa33.heap.size wa33 Wv) ⟨((Bx.at_ (by simp))), ((Below.refl _ wa33).alloc (by simp <;> omega) _)⟩ ?_
            rintro wa34 ⟨g59, b⟩
            replace B5 := B5.trans (b.mono B5.size); replace om := om.below b; replace B := B.trans (b.mono B.size); clear b
            have c_g59 := g59.cell; have f_g59 := g59.free; have a_g59 := fun o => (g59.alloc o).cell; have d_g59 := fun o o2 => ((g59.alloc o).alloc o2).cell; have e_g59 := fun o => (g59.alloc o).free
            obtain ⟨p59, hp59⟩ : ∃ p, p = wa33.heap.size := ⟨_, rfl⟩
            rw [← hp59] at g59 c_g59 f_g59 a_g59 d_g59 e_g59 ⊢
            clear hp59
            obtain ⟨gO, cO, p0, q0, p1, q1, ev, d0, d1, i0, i1, j0, j1, c0, c1, z0, z1, hne, n0, n1, hB0, hB1, r0, r1, mo⟩ := nm_own om
            have m0 : p59 ≠ p0 := by
              rcases own_not_bx r0 g59 (by decide) with h | h
              · simp [Value.ownBlock] at h
              · intro e; exact h (by simp [Value.ownBlock, e])
            have m1 : p59 ≠ p1 := by
              rcases own_not_bx r1 g59 (by decide) with h | h
              · simp [Value.ownBlock] at h
              · intro e; exact h (by simp [Value.ownBlock, e])
            have g590 : Bx (wsY wa34 p1 p0 0) p59 26 #[.slice ea eb ec, .slice ed ee ef, .slice eg eh ei] := g59
            have g591 : Bx (wsY wa34 p1 p0 1) p59 26 #[.slice ea eb ec, .slice ed ee ef, .slice eg eh ei] := g590.far (p := ⟨p1, 0, none⟩) m1 _
            have g592 : Bx (wsY wa34 p1 p0 2) p59 26 #[.slice ea eb ec, .slice ed ee ef, .slice eg eh ei] := g591.far (p := ⟨p0, 0, none⟩) m0 _
            have e0 : (wsY wa34 p1 p0 0).cell? ⟨gO, 1, none⟩ = some (.slice (some ⟨p0, 0, none⟩) 1 q0) := d0
            have e1 : (wsY wa34 p1 p0 0).cell? ⟨gO, 3, none⟩ = some (.slice (some ⟨p1, 0, none⟩) 1 q1) := d1
            have far : ∀ (V : World) (g i p : Nat) (u : Value), p ≠ g → (V.setCell ⟨p, 0, none⟩ u).cell? ⟨g, i, none⟩ = V.cell? ⟨g, i, none⟩ := fun V g i p u h => World.cell?_setCell_far V ⟨p, 0, none⟩ ⟨g, i, none⟩ u h
            have cg := fun x : FXN (FS2 [11, 13] [] (wsY wa34 p1 p0)) => FS2.all (ks := [11, 13]) (rs := []) (Ws := wsY wa34 p1 p0) (p := fun V => (∀ i, V.cell? ⟨p59, i, none⟩ = (#[.slice ea eb ec, .slice ed ee ef, .slice eg eh ei] : Array Value)[i]?) ∧ V.cell? ⟨gO, 1, none⟩ = some (.slice (some ⟨p0, 0, none⟩) 1 q0) ∧ V.cell? ⟨gO, 3, none⟩ = some (.slice (some ⟨p1, 0, none⟩) 1 q1)) (fun d hd => by
              rcases d with _ | _ | _ | d
              · exact ⟨g590.cell, e0, e1⟩
              · exact ⟨g591.cell, (far _ _ _ _ _ n1).trans e0, (far _ _ _ _ _ n1).trans e1⟩
              · exact ⟨g592.cell, (far _ _ _ _ _ n0).trans ((far _ _ _ _ _ n1).trans e0), (far _ _ _ _ _ n0).trans ((far _ _ _ _ _ n1).trans e1)⟩
              · simp at hd) x
            have cg0 := fun x => (cg x).1
            have cg1 := fun x => (cg x).2.1
            have cg2 := fun x => (cg x).2.2
            have z2 : (wsY wa34 p1 p0 1).cell? ⟨p0, 0, none⟩ = some (.int .u64 2) := (far _ _ _ _ _ (Ne.symm hne)).trans c0
            have z3 : (wsY wa34 p1 p0 1).frozen? ⟨p0, 0, none⟩ = false := by simpa [wsY] using z0
            have b60 : Below wa32.heap.size wa32 (wsY wa34 p1 p0 2) := (B5.drew.setCell (p := ⟨p1, 0, none⟩) hB1 _).setCell (p := ⟨p0, 0, none⟩) hB0 _
            have HK := Lib.hid (And.intro mo (And.intro g592 b60))
            have C1 := Lib.hid c1; have Z1 := Lib.hid z1; have Z2 := Lib.hid z2; have Z3 := Lib.hid z3
            clear c_g59 f_g59 a_g59 d_g59 e_g59 g59 g590 g591 g592 mo b60 cg far e0 e1 d0 d1 c0 c1 z0 z1 z2 z3 r0 r1 m0 m1 n0 n1 hB0 hB1 hne B5 B om
            haveI : Nonempty (FXN (FS2 [11, 13] [] (wsY wa34 p1 p0))) := ⟨⟨_, _, FS2.start⟩⟩
            refine wp_region_N (FS2 [11, 13] [] (wsY wa34 p1 p0)) [11, 13] FS2.dep (by kernel_rfl) (by kernel_rfl) (by kernel_rfl) FS2.start ?_
            iterate 11 (refine wpN_read FS2.dep rfl (by decide) ?_; go_big_quiet_step (fail); refine wpQuiet_nil ?_)
            refine wpN_storeD FS2.dep rfl 46 (.tmp 313) (.const (.int .u64 2)) rfl (by rfl) (p := .pointer (some ⟨p1, 0, none⟩)) (u := .int .u64 2) (by rfl) (by rfl) [] (by kernel_rfl) (fun f W' hF h0 h1 => ?_) ?_
            · obtain ⟨rfl, h2⟩ := FS2.step (i := 0) rfl (by decide) (by decide) hF h0 (by intro p hp; omega) (fun _ r hr => by cases hr)
              exact ⟨_, store_int (by kernel_rfl) _ _ _ _ _ (show (wsY wa34 p1 p0 0).cell? ⟨p1, 0, none⟩ = some (.int .u64 0) from C1.out) Z1.out, h2⟩
            simp only [Act.put, List.setIfInBounds_toArray, List.set_cons_zero, List.set_cons_succ]
            iterate 1 (refine wpN_read FS2.dep rfl (by decide) ?_; go_big_quiet_step (fail); refine wpQuiet_nil ?_)
            refine wpN_storeD FS2.dep rfl 46 (.tmp 314) (.const (.int .u64 0)) rfl (by rfl) (p := .pointer (some ⟨p0, 0, none⟩)) (u := .int .u64 0) (by rfl) (by rfl) [11] (by kernel_rfl) (fun f W' hF h0 h1 => ?_) ?_
            · obtain ⟨rfl, h2⟩ := FS2.step (i := 1) rfl (by decide) (by decide) hF h0 (FS2.prev rfl (h1 11 (by simp))) (by omega)
              exact ⟨_, store_int (by kernel_rfl) _ _ _ _ _ Z2.out Z3.out, h2⟩
            simp only [Act.put, List.setIfInBounds_toArray, List.set_cons_zero, List.set_cons_succ]
            show ∀ w', _ → _
            intro w' hw'
            obtain rfl := FS2.done hw'
            have hW : wsY wa34 p1 p0 ([11, 13] : List Nat).length = wsY wa34 p1 p0 2 := rfl
            rw [hW]
            clear hw' hW C1 Z1 Z2 Z3 this cg0 cg1 cg2 i0 i1 j0 j1 ev
            generalize wsY wa34 p1 p0 2 = V60 at HK ⊢
            obtain ⟨kO, g59, bb⟩ := HK.out
            obtain ⟨g19, g44, g45, kz, B⟩ := HZ.out
            clear HK HZ
            replace g19 := g19.below bb
            replace g44 := g44.below bb
            replace g45 := g45.below bb
            replace kz := kz.below bb
            replace B := B.trans (bb.mono hz58)
            clear bb
            have c_g59 := g59.cell; have f_g59 := g59.free; have a_g59 := fun o => (g59.alloc o).cell; have d_g59 := fun o o2 => ((g59.alloc o).alloc o2).cell; have e_g59 := fun o => (g59.alloc o).free
            have c_g19 := g19.cell; have f_g19 := g19.free; have a_g19 := fun o => (g19.alloc o).cell; have d_g19 := fun o o2 => ((g19.alloc o).alloc o2).cell; have e_g19 := fun o => (g19.alloc o).free
            have c_g44 := g44.cell; have f_g44 := g44.free; have a_g44 := fun o => (g44.alloc o).cell; have d_g44 := fun o o2 => ((g44.alloc o).alloc o2).cell; have e_g44 := fun o => (g44.alloc o).free
            have c_g45 := g45.cell; have f_g45 := g45.free; have a_g45 := fun o => (g45.alloc o).cell; have d_g45 := fun o o2 => ((g45.alloc o).alloc o2).cell; have e_g45 := fun o => (g45.alloc o).free
            have FO := Lib.hid (fun w h => Free20_own (.slice ea eb ec) (.slice ed ee ef) (.slice eg eh ei) nmO 1 1 (freeM nmO 1 1) 0 rfl nm_w.symm w h)
            have hz61 := B.size
            go_upto_region 61 with (fail)
            clear c_g59 f_g59 a_g59 d_g59 e_g59 c_g19 f_g19 a_g19 d_g19 e_g19 c_g44 f_g44 a_g44 d_g44 e_g44 c_g45 f_g45 a_g45 d_g45 e_g45
            have hzq := B.size
            refine wp_region_R1 1 0 (OwnR w.heap.size (freeM nmO 1 1) 0 0) (OwnR.st w.heap.size (freeM nmO 1 1) 0 0) 22 #[.agg #[.slice ea eb ec, .slice ed ee ef, .slice eg eh ei], .agg #[.int .i64 1, .int .i64 1]] (by kernel_rfl) (by kernel_rfl) (by kernel_rfl) (by kernel_rfl) (fun W hW => toR1own (Nat.le_trans hz61 hW.size) (FO.out W (kO.below hW))) ?_
            intro g
            have cq := fun x : FXN (FR1 V60 (OwnR w.heap.size (freeM nmO 1 1) 0 0) g) => (g59.below x.belowR1).cell
            haveI : Nonempty (FXN (FR1 V60 (OwnR w.heap.size (freeM nmO 1 1) 0 0) g)) := ⟨⟨_, _, FR1.start⟩⟩
            iterate 1 (refine wpM_read FR1.dep rfl (by decide) (by decide) ?_; go_big_quiet_step (fail); refine wpQuiet_nil ?_)
            refine wpM_new (by decide) rfl (by show TR1 _ _ _ 1 _; unfold TR1; rw [if_pos rfl]; intro W; simp [execOp, resolve, invoke, Act.eval, go_sem]) ?_
            simp only [Act.put, List.setIfInBounds_toArray, List.set_cons_zero, List.set_cons_succ]
            rw [show valR1 1 0 g 1 = .agg #[.int .i64 1, .int .i64 1] from rfl]
            refine wpM_new (by decide) rfl (by show TR1 _ _ _ 2 _; unfold TR1; rw [if_neg (by decide), if_pos rfl]; intro W; simp [execOp, resolve, invoke, Act.eval, go_sem]) ?_
            simp only [Act.put, List.setIfInBounds_toArray, List.set_cons_zero, List.set_cons_succ]
            rw [show valR1 1 0 g 2 = .tuple #[.agg #[.slice g.1.tA g.1.tn g.1.tc, .slice g.1.oA g.1.on g.1.oc, .slice g.1.sA g.1.sn g.1.sc], .int .i64 0] from rfl]
            iterate 3 (refine wpM_read FR1.dep rfl (by decide) (by decide) ?_; go_big_quiet_step (fail); refine wpQuiet_nil ?_)
            refine wpM_new (by decide) rfl (by show TR1 _ _ _ 6 _; unfold TR1; rw [if_neg (by decide), if_neg (by decide)]; intro W; simp [execOp, go_sem, rbM]) ?_
            simp only [Act.put, List.setIfInBounds_toArray, List.set_cons_zero, List.set_cons_succ]
            rw [show valR1 1 0 g 6 = .pointer (some ⟨g.2, 0, none⟩) from rfl]
            refine wpM_store FR1.dep (by decide) rfl 26 (.tmp 60) (.tmp 319) rfl (by rfl) (p := .pointer (some ⟨g.2, 0, none⟩)) (u := .agg #[.slice g.1.tA g.1.tn g.1.tc, .slice g.1.oA g.1.on g.1.oc, .slice g.1.sA g.1.sn g.1.sc]) (by rfl) (by rfl) [6, 2] (by kernel_rfl) (fun f W hF h0 h1 => ?_) ?_
            · obtain ⟨s1, s2, s3⟩ := hF.store1 (OwnR.st w.heap.size (freeM nmO 1 1) 0 0) (h1 6 (by simp)) (h1 2 (by simp)) h0
              refine ⟨_, ?_, s3⟩
              simp [go_sem, s1, s2, rbM, rbS3, GR.m]
            simp only [Act.put, List.setIfInBounds_toArray, List.set_cons_zero, List.set_cons_succ]
            iterate 1 (refine wpM_read FR1.dep rfl (by decide) (by decide) ?_; go_big_quiet_step (fail); refine wpQuiet_nil ?_)
            refine wpM_nil ?_
            intro wq61 hF
            obtain ⟨bW, hg, _, f11⟩ := hF
            obtain ⟨_, g11⟩ := f11 rfl
            have hgr := hg rfl
            clear f11 hg cq this
            obtain ⟨⟨ua, ub, uc, ud, ue, uf, ug, uh, ui, zc1, zc2⟩, zp⟩ := g
            obtain ⟨ku, e1, e2⟩ := hgr
            dsimp only at e1 e2
            subst e1; subst e2
            replace g11 : Bx wq61 zp 26 #[.slice ua ub uc, .slice ud ue uf, .slice ug uh ui] := g11
            have g60 := g11; clear g11
            dsimp only [GR.m] at ku
            replace g59 := g59.below bW
            replace g19 := g19.below bW
            replace g44 := g44.below bW
            replace g45 := g45.below bW
            replace kO := kO.below bW
            replace kz := kz.below bW
            replace B := B.trans (bW.mono hzq)
            clear bW hzq
            have c_g59 := g59.cell; have f_g59 := g59.free; have a_g59 := fun o => (g59.alloc o).cell; have d_g59 := fun o o2 => ((g59.alloc o).alloc o2).cell; have e_g59 := fun o => (g59.alloc o).free
            have c_g19 := g19.cell; have f_g19 := g19.free; have a_g19 := fun o => (g19.alloc o).cell; have d_g19 := fun o o2 => ((g19.alloc o).alloc o2).cell; have e_g19 := fun o => (g19.alloc o).free
            have c_g44 := g44.cell; have f_g44 := g44.free; have a_g44 := fun o => (g44.alloc o).cell; have d_g44 := fun o o2 => ((g44.alloc o).alloc o2).cell; have e_g44 := fun o => (g44.alloc o).free
            have c_g45 := g45.cell; have f_g45 := g45.free; have a_g45 := fun o => (g45.alloc o).cell; have d_g45 := fun o o2 => ((g45.alloc o).alloc o2).cell; have e_g45 := fun o => (g45.alloc o).free
            have c_g60 := g60.cell; have f_g60 := g60.free; have a_g60 := fun o => (g60.alloc o).cell; have d_g60 := fun o o2 => ((g60.alloc o).alloc o2).cell; have e_g60 := fun o => (g60.alloc o).free
            clear FO
            clear g59 c_g59 f_g59 a_g59 d_g59 e_g59
            clear kO
            have lz : ∀ ty W, (Builtin.len_ #[24] ty #[.slice zg zh zi]).run Try.prog W = .ok (.int .i64 16) W := kz.rd.s.len
            have lf := ku.rd.o.len
            rw [nm_wl] at lf
            obtain ⟨zb9, zq9, zs9, iz9, k0, k1, k2, hsz⟩ := kz.rd.s.at_ (P := Try.prog) Try.underlying24 size_slot (k := 3) (by decide)
            obtain rfl : zs9 = ⟨1, true, 1⟩ := by have h9 := hsz.out; rw [show nmZ.slots[3]? = some ⟨1, true, 1⟩ from rfl] at h9; injection h9 with h9; exact h9.symm
            dsimp only at k0 k1 k2
            clear hsz
            replace iz9 : ∀ W, (Instr.indexAt 24 (.slice zg zh zi) (.int .i64 3)).run Try.prog W = .ok (.pointer (some ⟨zb9, zq9, none⟩)) W := iz9
            have hq := fun W => hdl_eql 2 1 W
            have hq2 := fun W => hdl_eql 3 1 W
            go_wp2_with fail
            refine (alive20_any _).mono ?_
            rintro e wa35 ⟨rfl, b⟩
            try clear c_g19 f_g19 a_g19 d_g19 e_g19
            replace g19 := g19.below b; have c_g19 := g19.cell; have f_g19 := g19.free; have a_g19 := fun o => (g19.alloc o).cell; have d_g19 := fun o o2 => ((g19.alloc o).alloc o2).cell; have e_g19 := fun o => (g19.alloc o).free; try clear c_g44 f_g44 a_g44 d_g44 e_g44
            replace g44 := g44.below b; have c_g44 := g44.cell; have f_g44 := g44.free; have a_g44 := fun o => (g44.alloc o).cell; have d_g44 := fun o o2 => ((g44.alloc o).alloc o2).cell; have e_g44 := fun o => (g44.alloc o).free; try clear c_g45 f_g45 a_g45 d_g45 e_g45
            replace g45 := g45.below b; have c_g45 := g45.cell; have f_g45 := g45.free; have a_g45 := fun o => (g45.alloc o).cell; have d_g45 := fun o o2 => ((g45.alloc o).alloc o2).cell; have e_g45 := fun o => (g45.alloc o).free; try clear c_g60 f_g60 a_g60 d_g60 e_g60
            replace g60 := g60.below b; have c_g60 := g60.cell; have f_g60 := g60.free; have a_g60 := fun o => (g60.alloc o).cell; have d_g60 := fun o o2 => ((g60.alloc o).alloc o2).cell; have e_g60 := fun o => (g60.alloc o).free; replace kz := kz.below b; replace ku := ku.below b; replace B := B.trans (b.mono B.size); clear b
            go_wp2
            go_ret
            exact ⟨rfl, B⟩
end Go.Proofs.Yteejianjjpdimaa
