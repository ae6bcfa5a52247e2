/- The walk of the law FieldsModel. -/
import Derived.Test.YtiiilaojllmmiaaMFy
set_option linter.unusedVariables false
set_option linter.unusedSimpArgs false
namespace Go.Proofs.Ytiiilaojllmmiaa
open Go.RowKit L02 L05 L13 L18 L19 L20

theorem hdl_eqq (a b : Int) (W : World) : (binOp .eql 24 (.agg #[.int .i64 a, .int .i64 b]) (.agg #[.int .i64 a, .int .i64 b])).run Try.prog W = .ok (.bool true) W := by
  simp [go_sem]
set_option maxRecDepth 100000 in
set_option maxHeartbeats 16000000 in
theorem FieldsModel_walk (v0 : Value) (l : List UInt64) (a0 b0 a1 b1 : Int) (fi : Int) (x : UInt64) (w : World) (h0 : Words w v0 l) (_f1 : -9223372036854775808 ≤ a0 ∧ a0 ≤ 9223372036854775807) (_f2 : -9223372036854775808 ≤ b0 ∧ b0 ≤ 9223372036854775807) (_f3 : -9223372036854775808 ≤ a1 ∧ a1 ≤ 9223372036854775807) (_f4 : -9223372036854775808 ≤ b1 ∧ b1 ≤ 9223372036854775807) (_f5 : -9223372036854775808 ≤ fi ∧ fi ≤ 9223372036854775807) :
    Calls Try.prog 12 #[v0, .agg #[.int .i64 a0, .int .i64 b0], .agg #[.int .i64 a1, .int .i64 b1], .int .i64 fi, .int .u64 x.toNat] w fun e w' => e = .returned (.bool true) ∧ Below w.heap.size w w' := by
  have B : Below w.heap.size w w := Below.refl _ _
  have H := Lib.hid h0; clear h0 _f1 _f2 _f3 _f4 _f5
  have AL := Lib.hid alive24_any
  have G := Lib.hid (fun w h => Great_any v0 l w h)
  obtain ⟨gr, hgr⟩ : ∃ g, g = decide (2100 < l.length) := ⟨_, rfl⟩
  have HGR := Lib.hid hgr
  rw [← hgr] at G
  clear hgr
  cases gr
  case true =>
    go_enter Try.func12, Try.ntmps12
    go_upto_region 1 with (fail)
    refine wp_gen (fun Wv => Bx Wv (w.heap.size) (24) (#[.int .i64 a0, .int .i64 b0]) ∧ Bx Wv (w.heap.size + 1) (24) (#[.int .i64 a1, .int .i64 b1]) ∧ Below w.heap.size w Wv) ⟨(((Bx.at_ (by simp)).alloc _)), ((Bx.at_ (by simp))), (((Below.refl _ w).alloc (by simp <;> omega) _).alloc (by simp <;> omega) _)⟩ ?_
    rintro wa1 ⟨g1, g2, b⟩
    replace B := B.trans (b.mono B.size); clear b
    have c_g1 := g1.cell; have f_g1 := g1.free; have a_g1 := fun o => (g1.alloc o).cell; have d_g1 := fun o o2 => ((g1.alloc o).alloc o2).cell; have e_g1 := fun o => (g1.alloc o).free
    have c_g2 := g2.cell; have f_g2 := g2.free; have a_g2 := fun o => (g2.alloc o).cell; have d_g2 := fun o o2 => ((g2.alloc o).alloc o2).cell; have e_g2 := fun o => (g2.alloc o).free
    go_wp2_with fail
    refine (AL.out _).mono ?_
    rintro e wa2 ⟨rfl, b⟩
    try clear c_g1 f_g1 a_g1 d_g1 e_g1
    replace g1 := g1.below b; have c_g1 := g1.cell; have f_g1 := g1.free; have a_g1 := fun o => (g1.alloc o).cell; have d_g1 := fun o o2 => ((g1.alloc o).alloc o2).cell; have e_g1 := fun o => (g1.alloc o).free; try clear c_g2 f_g2 a_g2 d_g2 e_g2
    replace g2 := g2.below b; have c_g2 := g2.cell; have f_g2 := g2.free; have a_g2 := fun o => (g2.alloc o).cell; have d_g2 := fun o o2 => ((g2.alloc o).alloc o2).cell; have e_g2 := fun o => (g2.alloc o).free; replace B := B.trans (b.mono B.size); clear b
    go_wp2_with fail
    refine (G.out _ (H.out.below B)).mono ?_
    rintro e w2 ⟨rfl, rfl⟩
    go_wp2
    go_ret
    exact ⟨rfl, B⟩
  case false =>
    have hln : l.length ≤ 1048576 := by have := HGR.out; simp at this; omega
    obtain ⟨c, hc⟩ : ∃ v, v = chk19 l := ⟨_, rfl⟩
    have CK := Lib.hid (fun w h => Check19_any v0 l c hc w h)
    by_cases h0 : c = 0
    case neg =>
      have n1 : (c != 0) = true := by rw [bne_iff_ne]; exact h0
      clear hc h0 hln
      go_enter Try.func12, Try.ntmps12
      go_upto_region 1 with (fail)
      refine wp_gen (fun Wv => Bx Wv (w.heap.size) (24) (#[.int .i64 a0, .int .i64 b0]) ∧ Bx Wv (w.heap.size + 1) (24) (#[.int .i64 a1, .int .i64 b1]) ∧ Below w.heap.size w Wv) ⟨(((Bx.at_ (by simp)).alloc _)), ((Bx.at_ (by simp))), (((Below.refl _ w).alloc (by simp <;> omega) _).alloc (by simp <;> omega) _)⟩ ?_
      rintro wa1 ⟨g1, g2, b⟩
      replace B := B.trans (b.mono B.size); clear b
      have c_g1 := g1.cell; have f_g1 := g1.free; have a_g1 := fun o => (g1.alloc o).cell; have d_g1 := fun o o2 => ((g1.alloc o).alloc o2).cell; have e_g1 := fun o => (g1.alloc o).free
      have c_g2 := g2.cell; have f_g2 := g2.free; have a_g2 := fun o => (g2.alloc o).cell; have d_g2 := fun o o2 => ((g2.alloc o).alloc o2).cell; have e_g2 := fun o => (g2.alloc o).free
      go_wp2_with fail
      refine (AL.out _).mono ?_
      rintro e wa2 ⟨rfl, b⟩
      try clear c_g1 f_g1 a_g1 d_g1 e_g1
      replace g1 := g1.below b; have c_g1 := g1.cell; have f_g1 := g1.free; have a_g1 := fun o => (g1.alloc o).cell; have d_g1 := fun o o2 => ((g1.alloc o).alloc o2).cell; have e_g1 := fun o => (g1.alloc o).free; try clear c_g2 f_g2 a_g2 d_g2 e_g2
      replace g2 := g2.below b; have c_g2 := g2.cell; have f_g2 := g2.free; have a_g2 := fun o => (g2.alloc o).cell; have d_g2 := fun o o2 => ((g2.alloc o).alloc o2).cell; have e_g2 := fun o => (g2.alloc o).free; replace B := B.trans (b.mono B.size); clear b
      go_wp2_with fail
      refine (G.out _ (H.out.below B)).mono ?_
      rintro e w2 ⟨rfl, rfl⟩
      go_wp2_with fail
      refine (CK.out _ (H.out.below B)).mono ?_
      rintro e wa3 ⟨rfl, b⟩
      try clear c_g1 f_g1 a_g1 d_g1 e_g1
      replace g1 := g1.below b; have c_g1 := g1.cell; have f_g1 := g1.free; have a_g1 := fun o => (g1.alloc o).cell; have d_g1 := fun o o2 => ((g1.alloc o).alloc o2).cell; have e_g1 := fun o => (g1.alloc o).free; try clear c_g2 f_g2 a_g2 d_g2 e_g2
      replace g2 := g2.below b; have c_g2 := g2.cell; have f_g2 := g2.free; have a_g2 := fun o => (g2.alloc o).cell; have d_g2 := fun o o2 => ((g2.alloc o).alloc o2).cell; have e_g2 := fun o => (g2.alloc o).free; replace B := B.trans (b.mono B.size); clear b
      go_wp2
      go_ret
      exact ⟨rfl, B⟩
    case pos =>
      subst h0
      have rt : Rt l := Rt.of hc.symm
      obtain ⟨m, hm⟩ : ∃ m, m = L19.seen l := ⟨_, rfl⟩
      have OM := Lib.hid (fun w h => OfM_any v0 l m 0 (by rw [hm, ofM, if_pos rt.chk]) hc w h)
      obtain ⟨x1, h1⟩ : ∃ v, v = giV l a0 b0 fi := ⟨_, rfl⟩
      obtain ⟨r1, h2⟩ : ∃ v, v = giE l a0 b0 fi := ⟨_, rfl⟩
      obtain ⟨E2, h3⟩ : ∃ v, v = siL l a0 b0 fi x := ⟨_, rfl⟩
      obtain ⟨E3, h4⟩ : ∃ v, v = riL l a0 b0 fi (some (a1, b1)) := ⟨_, rfl⟩
      obtain ⟨r3, h5⟩ : ∃ v, v = riE l a0 b0 fi (some (a1, b1)) := ⟨_, rfl⟩
      obtain ⟨E5, h45⟩ : ∃ v, v = riL l a0 b0 fi none := ⟨_, rfl⟩
      obtain ⟨r5, h55⟩ : ∃ v, v = riE l a0 b0 fi none := ⟨_, rfl⟩
      obtain ⟨E4, h6⟩ : ∃ v, v = oiL l a0 b0 fi := ⟨_, rfl⟩
      obtain ⟨s4, h7⟩ : ∃ v, v = oiS l a0 b0 fi := ⟨_, rfl⟩
      obtain ⟨g4, h8⟩ : ∃ v, v = oiG l a0 b0 fi := ⟨_, rfl⟩
      obtain ⟨r4, h9⟩ : ∃ v, v = oiE l a0 b0 fi := ⟨_, rfl⟩
      obtain ⟨M2, hM2⟩ : ∃ M, M = setM m a0 b0 fi x := ⟨_, rfl⟩
      obtain ⟨M3, hM3⟩ : ∃ M, M = refM m a0 b0 fi (some (a1, b1)) := ⟨_, rfl⟩
      obtain ⟨M5, hM5⟩ : ∃ M, M = refM m a0 b0 fi none := ⟨_, rfl⟩
      obtain ⟨M4, hM4⟩ : ∃ M, M = rootM m a0 b0 fi := ⟨_, rfl⟩
      obtain ⟨t1, t2, t3, t4⟩ := root_seen rt a0 b0 fi
      have GA := Lib.hid (fun w h => Get24_any v0 l a0 b0 fi x1 r1 h1 h2 w h)
      have GM := Lib.hid (fun t o s w h => Get20_any t o s m a0 b0 fi x1 r1 (by rw [hm, getV_seen rt]; exact h1) (by rw [hm, getE_seen rt]; exact h2) w h)
      have SA := Lib.hid (fun w h => Set24_any v0 l a0 b0 fi x E2 r1 h3 h2 w h)
      have SMo := Lib.hid (fun t o s w h => Set20_own t o s m a0 b0 fi x M2 r1 hM2 (by rw [hm, getE_seen rt]; exact h2) w h)
      have RA := Lib.hid (fun pv w h hp => SetRef24_any v0 pv l a0 b0 fi (some (a1, b1)) E3 r3 h4 h5 w h hp)
      have RM := Lib.hid (fun t o s pv w h h2 => SetRef20_own t o s m a0 b0 fi pv (some (a1, b1)) M3 r3 hM3 (by rw [hm, refE_seen rt]; exact h5) w h h2)
      have NA := Lib.hid (fun pv w h hp => SetRef24_any v0 pv l a0 b0 fi none E5 r5 h45 h55 w h hp)
      have NM := Lib.hid (fun t o s pv w h h2 => SetRef20_own t o s m a0 b0 fi pv none M5 r5 hM5 (by rw [hm, refE_seen rt]; exact h55) w h h2)
      have OA := Lib.hid (fun w h => Root24_any v0 l a0 b0 fi E4 s4 g4 r4 h6 h7 h8 h9 w h)
      have OMo := Lib.hid (fun t o s w h => Root20_own t o s m a0 b0 fi M4 r4 s4 g4 hM4 (by rw [hm, t1]; exact h9) (by rw [hm, t2]; exact h7) (by rw [hm, t3]; exact h8) w h)
      have HB1 : Hid (r1 = 0 → ∀ ev t o s w, Words w v0 l → Ents w ev E2 → Mod w t o s M2 → Calls Try.prog 51 #[v0, ev, .agg #[t, o, s]] w fun e w' => e = .returned (.bool true) ∧ Below w.heap.size w w') := Lib.hid fun z ev t o s w ha hb hc' => by
        have e0 : giE l a0 b0 fi = 0 := by rw [← h2]; exact z
        obtain ⟨z1, z2⟩ := setM_seen rt a0 b0 fi x e0
        obtain ⟨y, z3, _⟩ := giE_siL e0 x
        rw [← h3] at z1 z2 z3
        exact becomes24_any v0 ev t o s l _ E2 M2 hln (by rw [z3]; rfl) rfl z1 (by rw [hM2, hm, z2]) w ha hb hc'
      have HB3 : ∀ (tq : Option (Int × Int)) (E : List (Int × UInt64)) (r : Int) (M : Mo), E = riL l a0 b0 fi tq → r = riE l a0 b0 fi tq → M = refM m a0 b0 fi tq → Hid (r = 0 → ∀ ev t o s w, Words w v0 l → Ents w ev E → Mod w t o s M → Calls Try.prog 51 #[v0, ev, .agg #[t, o, s]] w fun e w' => e = .returned (.bool true) ∧ Below w.heap.size w w') := fun tq E r M hE hr hM => Lib.hid fun z ev t o s w ha hb hc' => by
        have e0 : riE l a0 b0 fi tq = 0 := by rw [← hr]; exact z
        obtain ⟨z1, z2, p, y, z3⟩ := refM_seen rt a0 b0 fi tq e0
        rw [← hE] at z1 z2 z3
        exact becomes24_any v0 ev t o s l _ E M hln (by rw [z3]; rfl) rfl z1 (by rw [hM, hm, z2]) w ha hb hc'
      have HBA := HB3 _ E3 r3 M3 h4 h5 hM3
      have HBN := HB3 _ E5 r5 M5 h45 h55 hM5
      have HB4 : Hid (r4 = 0 → ∀ ev t o s w, Words w v0 l → Ents w ev E4 → Mod w t o s M4 → Calls Try.prog 51 #[v0, ev, .agg #[t, o, s]] w fun e w' => e = .returned (.bool true) ∧ Below w.heap.size w w') := Lib.hid fun z ev t o s w ha hb hc' => by
        have e0 : oiE l a0 b0 fi = 0 := by rw [← h9]; exact z
        obtain ⟨z1, z2, p, y, z3⟩ := t4 e0
        rw [← h6] at z1 z2 z3
        exact becomes24_any v0 ev t o s l _ E4 M4 hln (by rw [z3]; rfl) rfl z1 (by rw [hM4, hm, z2]) w ha hb hc'
      have hcase : (r1 ≠ 0 ∧ r3 ≠ 0 ∧ r5 ≠ 0 ∧ r4 ≠ 0) ∨ (r1 = 0 ∧ r3 ≠ 0 ∧ r5 ≠ 0 ∧ r4 ≠ 0) ∨ (r1 ≠ 0 ∧ r5 = 0) := by
        rw [h2, h5, h55, h9]
        by_cases hk : kiErr l a0 b0 fi = 0
        · by_cases h3 : (kiK l a0 b0 fi).toNat = 3
          · right; right
            refine ⟨by rw [giE, if_pos hk, if_pos h3]; decide, ?_⟩
            unfold riE; rw [if_pos hk, if_pos h3]
          · right; left
            refine ⟨by rw [giE, if_pos hk, if_neg h3], ?_, ?_, ?_⟩
            · unfold riE; rw [if_pos hk, if_neg h3]; decide
            · unfold riE; rw [if_pos hk, if_neg h3]; decide
            · rw [oiE, if_pos hk, if_neg h3]; decide
        · left
          refine ⟨by rw [giE, if_neg hk]; exact hk, ?_, ?_, by rw [oiE, if_neg hk]; exact hk⟩
          · unfold riE; rw [if_neg hk]; exact hk
          · unfold riE; rw [if_neg hk]; exact hk
      have hse := hdl_eqq s4 g4
      clear hc hm h1 h2 h3 h4 h5 h45 h55 h6 h7 h8 h9 hM2 hM3 hM5 hM4 t1 t2 t3 t4 rt hln HB3
      have nz : ∀ r : Int, r ≠ 0 → (r == 0) = false := fun r h => by rw [beq_eq_false_iff_ne]; exact h
      have nb : ∀ r : Int, r ≠ 0 → (r != 0) = true := fun r h => by rw [bne_iff_ne]; exact h
      rcases hcase with ⟨c1, c3, c5, c4⟩ | ⟨c1, c3, c5, c4⟩ | ⟨c1, c5⟩
      · have n1 := nz _ c1; have n3 := nz _ c3; have n5 := nz _ c5; have n4 := nz _ c4; have m4 := nb _ c4
        clear c1 c3 c5 c4 HB1 HBA HBN HB4 nz nb
        go_enter Try.func12, Try.ntmps12
        go_upto_region 1 with (fail)
        refine wp_gen (fun Wv => Bx Wv (w.heap.size) (24) (#[.int .i64 a0, .int .i64 b0]) ∧ Bx Wv (w.heap.size + 1) (24) (#[.int .i64 a1, .int .i64 b1]) ∧ Below w.heap.size w Wv) ⟨(((Bx.at_ (by simp)).alloc _)), ((Bx.at_ (by simp))), (((Below.refl _ w).alloc (by simp <;> omega) _).alloc (by simp <;> omega) _)⟩ ?_
        rintro wa1 ⟨g1, g2, b⟩
        replace B := B.trans (b.mono B.size); clear b
        have c_g1 := g1.cell; have f_g1 := g1.free; have a_g1 := fun o => (g1.alloc o).cell; have d_g1 := fun o o2 => ((g1.alloc o).alloc o2).cell; have e_g1 := fun o => (g1.alloc o).free
        have c_g2 := g2.cell; have f_g2 := g2.free; have a_g2 := fun o => (g2.alloc o).cell; have d_g2 := fun o o2 => ((g2.alloc o).alloc o2).cell; have e_g2 := fun o => (g2.alloc o).free
        go_wp2_with fail
        refine (AL.out _).mono ?_
        rintro e wa2 ⟨rfl, b⟩
        try clear c_g1 f_g1 a_g1 d_g1 e_g1
        replace g1 := g1.below b; have c_g1 := g1.cell; have f_g1 := g1.free; have a_g1 := fun o => (g1.alloc o).cell; have d_g1 := fun o o2 => ((g1.alloc o).alloc o2).cell; have e_g1 := fun o => (g1.alloc o).free; try clear c_g2 f_g2 a_g2 d_g2 e_g2
        replace g2 := g2.below b; have c_g2 := g2.cell; have f_g2 := g2.free; have a_g2 := fun o => (g2.alloc o).cell; have d_g2 := fun o o2 => ((g2.alloc o).alloc o2).cell; have e_g2 := fun o => (g2.alloc o).free; replace B := B.trans (b.mono B.size); clear b
        go_wp2_with fail
        refine (G.out _ (H.out.below B)).mono ?_
        rintro e w2 ⟨rfl, rfl⟩
        go_wp2_with fail
        refine (CK.out _ (H.out.below B)).mono ?_
        rintro e wa3 ⟨rfl, b⟩
        try clear c_g1 f_g1 a_g1 d_g1 e_g1
        replace g1 := g1.below b; have c_g1 := g1.cell; have f_g1 := g1.free; have a_g1 := fun o => (g1.alloc o).cell; have d_g1 := fun o o2 => ((g1.alloc o).alloc o2).cell; have e_g1 := fun o => (g1.alloc o).free; try clear c_g2 f_g2 a_g2 d_g2 e_g2
        replace g2 := g2.below b; have c_g2 := g2.cell; have f_g2 := g2.free; have a_g2 := fun o => (g2.alloc o).cell; have d_g2 := fun o o2 => ((g2.alloc o).alloc o2).cell; have e_g2 := fun o => (g2.alloc o).free; replace B := B.trans (b.mono B.size); clear b
        go_wp2_with fail
        refine (OM.out _ (H.out.below B)).mono ?_
        rintro e wa4 ⟨ta, oa, sa, rfl, om, b⟩
        try clear c_g1 f_g1 a_g1 d_g1 e_g1
        replace g1 := g1.below b; have c_g1 := g1.cell; have f_g1 := g1.free; have a_g1 := fun o => (g1.alloc o).cell; have d_g1 := fun o o2 => ((g1.alloc o).alloc o2).cell; have e_g1 := fun o => (g1.alloc o).free; try clear c_g2 f_g2 a_g2 d_g2 e_g2
        replace g2 := g2.below b; have c_g2 := g2.cell; have f_g2 := g2.free; have a_g2 := fun o => (g2.alloc o).cell; have d_g2 := fun o o2 => ((g2.alloc o).alloc o2).cell; have e_g2 := fun o => (g2.alloc o).free; replace B := B.trans (b.mono B.size); clear b
        obtain ⟨⟨tA, tn, tc, rfl⟩, ⟨oA, on, oc, rfl⟩, ⟨sA, sn, sc, rfl⟩⟩ := om.rd.forms2
        go_upto_region 5 with (fail)
        refine wp_gen (fun Wv => Bx Wv (wa4.heap.size) (87) (#[.slice tA tn tc, .slice oA on oc, .slice sA sn sc]) ∧ Below wa4.heap.size wa4 Wv) ⟨((Bx.at_ (by simp))), ((Below.refl _ wa4).alloc (by simp <;> omega) _)⟩ ?_
        rintro wa5 ⟨g3, b⟩
        try clear c_g1 f_g1 a_g1 d_g1 e_g1
        replace g1 := g1.below b; have c_g1 := g1.cell; have f_g1 := g1.free; have a_g1 := fun o => (g1.alloc o).cell; have d_g1 := fun o o2 => ((g1.alloc o).alloc o2).cell; have e_g1 := fun o => (g1.alloc o).free; try clear c_g2 f_g2 a_g2 d_g2 e_g2
        replace g2 := g2.below b; have c_g2 := g2.cell; have f_g2 := g2.free; have a_g2 := fun o => (g2.alloc o).cell; have d_g2 := fun o o2 => ((g2.alloc o).alloc o2).cell; have e_g2 := fun o => (g2.alloc o).free; replace om := om.below b; replace B := B.trans (b.mono B.size); clear b
        have c_g3 := g3.cell; have f_g3 := g3.free; have a_g3 := fun o => (g3.alloc o).cell; have d_g3 := fun o o2 => ((g3.alloc o).alloc o2).cell; have e_g3 := fun o => (g3.alloc o).free
        go_wp2_with fail
        refine (GA.out _ (H.out.below B)).mono ?_
        rintro e wa6 ⟨rfl, b⟩
        try clear c_g1 f_g1 a_g1 d_g1 e_g1
        replace g1 := g1.below b; have c_g1 := g1.cell; have f_g1 := g1.free; have a_g1 := fun o => (g1.alloc o).cell; have d_g1 := fun o o2 => ((g1.alloc o).alloc o2).cell; have e_g1 := fun o => (g1.alloc o).free; try clear c_g2 f_g2 a_g2 d_g2 e_g2
        replace g2 := g2.below b; have c_g2 := g2.cell; have f_g2 := g2.free; have a_g2 := fun o => (g2.alloc o).cell; have d_g2 := fun o o2 => ((g2.alloc o).alloc o2).cell; have e_g2 := fun o => (g2.alloc o).free; replace om := om.below b; try clear c_g3 f_g3 a_g3 d_g3 e_g3
        replace g3 := g3.below b; have c_g3 := g3.cell; have f_g3 := g3.free; have a_g3 := fun o => (g3.alloc o).cell; have d_g3 := fun o o2 => ((g3.alloc o).alloc o2).cell; have e_g3 := fun o => (g3.alloc o).free; replace B := B.trans (b.mono B.size); clear b
        go_wp2_with fail
        refine (GM.out _ _ _ _ om.rd).mono ?_
        rintro e wa7 ⟨rfl, b⟩
        try clear c_g1 f_g1 a_g1 d_g1 e_g1
        replace g1 := g1.below b; have c_g1 := g1.cell; have f_g1 := g1.free; have a_g1 := fun o => (g1.alloc o).cell; have d_g1 := fun o o2 => ((g1.alloc o).alloc o2).cell; have e_g1 := fun o => (g1.alloc o).free; try clear c_g2 f_g2 a_g2 d_g2 e_g2
        replace g2 := g2.below b; have c_g2 := g2.cell; have f_g2 := g2.free; have a_g2 := fun o => (g2.alloc o).cell; have d_g2 := fun o o2 => ((g2.alloc o).alloc o2).cell; have e_g2 := fun o => (g2.alloc o).free; replace om := om.below b; try clear c_g3 f_g3 a_g3 d_g3 e_g3
        replace g3 := g3.below b; have c_g3 := g3.cell; have f_g3 := g3.free; have a_g3 := fun o => (g3.alloc o).cell; have d_g3 := fun o o2 => ((g3.alloc o).alloc o2).cell; have e_g3 := fun o => (g3.alloc o).free; replace B := B.trans (b.mono B.size); clear b
        go_wp2_with fail
        refine (SA.out _ (H.out.below B)).mono ?_
        rintro e wa8 ⟨y1, rfl, o1, b⟩
        try clear c_g1 f_g1 a_g1 d_g1 e_g1
        replace g1 := g1.below b; have c_g1 := g1.cell; have f_g1 := g1.free; have a_g1 := fun o => (g1.alloc o).cell; have d_g1 := fun o o2 => ((g1.alloc o).alloc o2).cell; have e_g1 := fun o => (g1.alloc o).free; try clear c_g2 f_g2 a_g2 d_g2 e_g2
        replace g2 := g2.below b; have c_g2 := g2.cell; have f_g2 := g2.free; have a_g2 := fun o => (g2.alloc o).cell; have d_g2 := fun o o2 => ((g2.alloc o).alloc o2).cell; have e_g2 := fun o => (g2.alloc o).free; replace om := om.below b; try clear c_g3 f_g3 a_g3 d_g3 e_g3
        replace g3 := g3.below b; have c_g3 := g3.cell; have f_g3 := g3.free; have a_g3 := fun o => (g3.alloc o).cell; have d_g3 := fun o o2 => ((g3.alloc o).alloc o2).cell; have e_g3 := fun o => (g3.alloc o).free; replace B := B.trans (b.mono B.size); clear b
        go_wp2_with fail
        refine (SMo.out _ _ _ _ om.rd).mono ?_
        rintro e wa9 ⟨tb, ob, sb, rfl, om2, b⟩
        try clear c_g1 f_g1 a_g1 d_g1 e_g1
        replace g1 := g1.below b; have c_g1 := g1.cell; have f_g1 := g1.free; have a_g1 := fun o => (g1.alloc o).cell; have d_g1 := fun o o2 => ((g1.alloc o).alloc o2).cell; have e_g1 := fun o => (g1.alloc o).free; try clear c_g2 f_g2 a_g2 d_g2 e_g2
        replace g2 := g2.below b; have c_g2 := g2.cell; have f_g2 := g2.free; have a_g2 := fun o => (g2.alloc o).cell; have d_g2 := fun o o2 => ((g2.alloc o).alloc o2).cell; have e_g2 := fun o => (g2.alloc o).free; replace om := om.below b; try clear c_g3 f_g3 a_g3 d_g3 e_g3
        replace g3 := g3.below b; have c_g3 := g3.cell; have f_g3 := g3.free; have a_g3 := fun o => (g3.alloc o).cell; have d_g3 := fun o o2 => ((g3.alloc o).alloc o2).cell; have e_g3 := fun o => (g3.alloc o).free; replace o1 := o1.below b; replace B := B.trans (b.mono B.size); clear b
        obtain ⟨⟨uA, un, uc, rfl⟩, ⟨pA, pn, pc, rfl⟩, ⟨qA, qn, qc, rfl⟩⟩ := om2.rd.forms2
        go_upto_region 11 with (fail)
        have hlt3 := g3.lt
        have hlt0 := B.size
        refine wp_gen (fun Wv => Bx Wv (wa9.heap.size) (87) (#[.slice uA un uc, .slice pA pn pc, .slice qA qn qc]) ∧ Below wa9.heap.size wa9 Wv) ⟨((Bx.at_ (by simp))), ((Below.refl _ wa9).alloc (by simp <;> omega) _)⟩ ?_
        rintro wa10 ⟨g5, b⟩
        try clear c_g1 f_g1 a_g1 d_g1 e_g1
        replace g1 := g1.below b; have c_g1 := g1.cell; have f_g1 := g1.free; have a_g1 := fun o => (g1.alloc o).cell; have d_g1 := fun o o2 => ((g1.alloc o).alloc o2).cell; have e_g1 := fun o => (g1.alloc o).free; try clear c_g2 f_g2 a_g2 d_g2 e_g2
        replace g2 := g2.below b; have c_g2 := g2.cell; have f_g2 := g2.free; have a_g2 := fun o => (g2.alloc o).cell; have d_g2 := fun o o2 => ((g2.alloc o).alloc o2).cell; have e_g2 := fun o => (g2.alloc o).free; replace om := om.below b; try clear c_g3 f_g3 a_g3 d_g3 e_g3
        replace g3 := g3.below b; have c_g3 := g3.cell; have f_g3 := g3.free; have a_g3 := fun o => (g3.alloc o).cell; have d_g3 := fun o o2 => ((g3.alloc o).alloc o2).cell; have e_g3 := fun o => (g3.alloc o).free; replace o1 := o1.below b; replace om2 := om2.below b; replace B := B.trans (b.mono B.size); clear b
        have c_g5 := g5.cell; have f_g5 := g5.free; have a_g5 := fun o => (g5.alloc o).cell; have d_g5 := fun o o2 => ((g5.alloc o).alloc o2).cell; have e_g5 := fun o => (g5.alloc o).free
        clear o1 om2
        go_wp2_with fail
        refine (RA.out _ _ (H.out.below B) ⟨_, rfl, g2⟩).mono ?_
        rintro e wa11 ⟨y2, rfl, o2, b⟩
        try clear c_g1 f_g1 a_g1 d_g1 e_g1
        replace g1 := g1.below b; have c_g1 := g1.cell; have f_g1 := g1.free; have a_g1 := fun o => (g1.alloc o).cell; have d_g1 := fun o o2 => ((g1.alloc o).alloc o2).cell; have e_g1 := fun o => (g1.alloc o).free; try clear c_g2 f_g2 a_g2 d_g2 e_g2
        replace g2 := g2.below b; have c_g2 := g2.cell; have f_g2 := g2.free; have a_g2 := fun o => (g2.alloc o).cell; have d_g2 := fun o o2 => ((g2.alloc o).alloc o2).cell; have e_g2 := fun o => (g2.alloc o).free; replace om := om.below b; try clear c_g3 f_g3 a_g3 d_g3 e_g3
        replace g3 := g3.below b; have c_g3 := g3.cell; have f_g3 := g3.free; have a_g3 := fun o => (g3.alloc o).cell; have d_g3 := fun o o2 => ((g3.alloc o).alloc o2).cell; have e_g3 := fun o => (g3.alloc o).free; try clear c_g5 f_g5 a_g5 d_g5 e_g5
        replace g5 := g5.below b; have c_g5 := g5.cell; have f_g5 := g5.free; have a_g5 := fun o => (g5.alloc o).cell; have d_g5 := fun o o2 => ((g5.alloc o).alloc o2).cell; have e_g5 := fun o => (g5.alloc o).free; replace B := B.trans (b.mono B.size); clear b
        go_wp2_with fail
        refine (RM.out _ _ _ _ _ om.rd ⟨_, rfl, g2⟩).mono ?_
        rintro e wa12 ⟨tb3, ob3, sb3, rfl, om3, b⟩
        try clear c_g1 f_g1 a_g1 d_g1 e_g1
        replace g1 := g1.below b; have c_g1 := g1.cell; have f_g1 := g1.free; have a_g1 := fun o => (g1.alloc o).cell; have d_g1 := fun o o2 => ((g1.alloc o).alloc o2).cell; have e_g1 := fun o => (g1.alloc o).free; try clear c_g2 f_g2 a_g2 d_g2 e_g2
        replace g2 := g2.below b; have c_g2 := g2.cell; have f_g2 := g2.free; have a_g2 := fun o => (g2.alloc o).cell; have d_g2 := fun o o2 => ((g2.alloc o).alloc o2).cell; have e_g2 := fun o => (g2.alloc o).free; replace om := om.below b; try clear c_g3 f_g3 a_g3 d_g3 e_g3
        replace g3 := g3.below b; have c_g3 := g3.cell; have f_g3 := g3.free; have a_g3 := fun o => (g3.alloc o).cell; have d_g3 := fun o o2 => ((g3.alloc o).alloc o2).cell; have e_g3 := fun o => (g3.alloc o).free; try clear c_g5 f_g5 a_g5 d_g5 e_g5
        replace g5 := g5.below b; have c_g5 := g5.cell; have f_g5 := g5.free; have a_g5 := fun o => (g5.alloc o).cell; have d_g5 := fun o o2 => ((g5.alloc o).alloc o2).cell; have e_g5 := fun o => (g5.alloc o).free; replace o2 := o2.below b; replace B := B.trans (b.mono B.size); clear b
        obtain ⟨⟨u3A, u3n, u3c, rfl⟩, ⟨p3A, p3n, p3c, rfl⟩, ⟨q3A, q3n, q3c, rfl⟩⟩ := om3.rd.forms2
        go_upto_region 15 with (fail)
        refine wp_gen (fun Wv => Bx Wv wa9.heap.size 87 #[.slice u3A u3n u3c, .slice p3A p3n p3c, .slice q3A q3n q3c] ∧ OwnM Wv wa11.heap.size 55 (.slice u3A u3n u3c) (.slice p3A p3n p3c) (.slice q3A q3n q3c) M3 ∧ OwnE Wv wa10.heap.size y2 E3 ∧ OwnM Wv wa3.heap.size 116 (.slice tA tn tc) (.slice oA on oc) (.slice sA sn sc) m ∧ Bx Wv w.heap.size 24 #[.int .i64 a0, .int .i64 b0] ∧ Bx Wv (w.heap.size + 1) 24 #[.int .i64 a1, .int .i64 b1] ∧ Bx Wv wa4.heap.size 87 #[.slice tA tn tc, .slice oA on oc, .slice sA sn sc] ∧ Below w.heap.size w Wv) ⟨g5.put3 _ _ _, OwnM.set3 om3 g5, own_set3 o2 g5 (by decide) _ _ _, OwnM.set3E om g5 (by decide), g1.far3 (g1.ne g5 (by decide)) _ _ _, g2.far3 (g2.ne g5 (by decide)) _ _ _, g3.far3 (by omega) _ _ _, below_set3 B hlt0 _ _ _⟩ ?_
        clear c_g1 f_g1 a_g1 d_g1 e_g1 c_g2 f_g2 a_g2 d_g2 e_g2 c_g3 f_g3 a_g3 d_g3 e_g3 c_g5 f_g5 a_g5 d_g5 e_g5 g1 g2 g3 g5 om om3 o2 B
        rintro wb15 ⟨g5, om3, o2, om, g1, g2, g3, B⟩
        have c_g1 := g1.cell; have f_g1 := g1.free; have a_g1 := fun o => (g1.alloc o).cell; have d_g1 := fun o o2 => ((g1.alloc o).alloc o2).cell; have e_g1 := fun o => (g1.alloc o).free
        have c_g2 := g2.cell; have f_g2 := g2.free; have a_g2 := fun o => (g2.alloc o).cell; have d_g2 := fun o o2 => ((g2.alloc o).alloc o2).cell; have e_g2 := fun o => (g2.alloc o).free
        have c_g3 := g3.cell; have f_g3 := g3.free; have a_g3 := fun o => (g3.alloc o).cell; have d_g3 := fun o o2 => ((g3.alloc o).alloc o2).cell; have e_g3 := fun o => (g3.alloc o).free
        have c_g5 := g5.cell; have f_g5 := g5.free; have a_g5 := fun o => (g5.alloc o).cell; have d_g5 := fun o o2 => ((g5.alloc o).alloc o2).cell; have e_g5 := fun o => (g5.alloc o).free
        clear o2 om3
        go_wp2_with fail
        refine (NA.out _ _ (H.out.below B) rfl).mono ?_
        rintro e wa13 ⟨y5, rfl, o5, b⟩
        try clear c_g1 f_g1 a_g1 d_g1 e_g1
        replace g1 := g1.below b; have c_g1 := g1.cell; have f_g1 := g1.free; have a_g1 := fun o => (g1.alloc o).cell; have d_g1 := fun o o2 => ((g1.alloc o).alloc o2).cell; have e_g1 := fun o => (g1.alloc o).free; try clear c_g2 f_g2 a_g2 d_g2 e_g2
        replace g2 := g2.below b; have c_g2 := g2.cell; have f_g2 := g2.free; have a_g2 := fun o => (g2.alloc o).cell; have d_g2 := fun o o2 => ((g2.alloc o).alloc o2).cell; have e_g2 := fun o => (g2.alloc o).free; try clear c_g3 f_g3 a_g3 d_g3 e_g3
        replace g3 := g3.below b; have c_g3 := g3.cell; have f_g3 := g3.free; have a_g3 := fun o => (g3.alloc o).cell; have d_g3 := fun o o2 => ((g3.alloc o).alloc o2).cell; have e_g3 := fun o => (g3.alloc o).free; try clear c_g5 f_g5 a_g5 d_g5 e_g5
        replace g5 := g5.below b; have c_g5 := g5.cell; have f_g5 := g5.free; have a_g5 := fun o => (g5.alloc o).cell; have d_g5 := fun o o2 => ((g5.alloc o).alloc o2).cell; have e_g5 := fun o => (g5.alloc o).free; replace om := om.below b; replace B := B.trans (b.mono B.size); clear b
        go_wp2_with fail
        refine (NM.out _ _ _ _ _ om.rd rfl).mono ?_
        rintro e wa14 ⟨tb5, ob5, sb5, rfl, om5, b⟩
        try clear c_g1 f_g1 a_g1 d_g1 e_g1
        replace g1 := g1.below b; have c_g1 := g1.cell; have f_g1 := g1.free; have a_g1 := fun o => (g1.alloc o).cell; have d_g1 := fun o o2 => ((g1.alloc o).alloc o2).cell; have e_g1 := fun o => (g1.alloc o).free; try clear c_g2 f_g2 a_g2 d_g2 e_g2
        replace g2 := g2.below b; have c_g2 := g2.cell; have f_g2 := g2.free; have a_g2 := fun o => (g2.alloc o).cell; have d_g2 := fun o o2 => ((g2.alloc o).alloc o2).cell; have e_g2 := fun o => (g2.alloc o).free; try clear c_g3 f_g3 a_g3 d_g3 e_g3
        replace g3 := g3.below b; have c_g3 := g3.cell; have f_g3 := g3.free; have a_g3 := fun o => (g3.alloc o).cell; have d_g3 := fun o o2 => ((g3.alloc o).alloc o2).cell; have e_g3 := fun o => (g3.alloc o).free; try clear c_g5 f_g5 a_g5 d_g5 e_g5
        replace g5 := g5.below b; have c_g5 := g5.cell; have f_g5 := g5.free; have a_g5 := fun o => (g5.alloc o).cell; have d_g5 := fun o o2 => ((g5.alloc o).alloc o2).cell; have e_g5 := fun o => (g5.alloc o).free; replace om := om.below b; replace o5 := o5.below b; replace B := B.trans (b.mono B.size); clear b
        obtain ⟨⟨u5A, u5n, u5c, rfl⟩, ⟨p5A, p5n, p5c, rfl⟩, ⟨q5A, q5n, q5c, rfl⟩⟩ := om5.rd.forms2
        go_upto_region 19 with (fail)
        refine wp_gen (fun Wv => Bx Wv wa9.heap.size 87 #[.slice u5A u5n u5c, .slice p5A p5n p5c, .slice q5A q5n q5c] ∧ OwnM Wv wa13.heap.size 55 (.slice u5A u5n u5c) (.slice p5A p5n p5c) (.slice q5A q5n q5c) M5 ∧ OwnE Wv wb15.heap.size y5 E5 ∧ OwnM Wv wa3.heap.size 116 (.slice tA tn tc) (.slice oA on oc) (.slice sA sn sc) m ∧ Bx Wv w.heap.size 24 #[.int .i64 a0, .int .i64 b0] ∧ Bx Wv (w.heap.size + 1) 24 #[.int .i64 a1, .int .i64 b1] ∧ Bx Wv wa4.heap.size 87 #[.slice tA tn tc, .slice oA on oc, .slice sA sn sc] ∧ Below w.heap.size w Wv) ⟨g5.put3 _ _ _, OwnM.set3 om5 g5, own_set3 o5 g5 (by decide) _ _ _, OwnM.set3E om g5 (by decide), g1.far3 (g1.ne g5 (by decide)) _ _ _, g2.far3 (g2.ne g5 (by decide)) _ _ _, g3.far3 (by omega) _ _ _, below_set3 B hlt0 _ _ _⟩ ?_
        clear c_g1 f_g1 a_g1 d_g1 e_g1 c_g2 f_g2 a_g2 d_g2 e_g2 c_g3 f_g3 a_g3 d_g3 e_g3 c_g5 f_g5 a_g5 d_g5 e_g5 g1 g2 g3 g5 om om5 o5 B
        rintro wb19 ⟨g5, om5, o5, om, g1, g2, g3, B⟩
        have c_g1 := g1.cell; have f_g1 := g1.free; have a_g1 := fun o => (g1.alloc o).cell; have d_g1 := fun o o2 => ((g1.alloc o).alloc o2).cell; have e_g1 := fun o => (g1.alloc o).free
        have c_g2 := g2.cell; have f_g2 := g2.free; have a_g2 := fun o => (g2.alloc o).cell; have d_g2 := fun o o2 => ((g2.alloc o).alloc o2).cell; have e_g2 := fun o => (g2.alloc o).free
        have c_g3 := g3.cell; have f_g3 := g3.free; have a_g3 := fun o => (g3.alloc o).cell; have d_g3 := fun o o2 => ((g3.alloc o).alloc o2).cell; have e_g3 := fun o => (g3.alloc o).free
        have c_g5 := g5.cell; have f_g5 := g5.free; have a_g5 := fun o => (g5.alloc o).cell; have d_g5 := fun o o2 => ((g5.alloc o).alloc o2).cell; have e_g5 := fun o => (g5.alloc o).free
        clear o5 om5
        go_wp2_with fail
        refine (OA.out _ (H.out.below B)).mono ?_
        rintro e wa15 ⟨y4, rfl, o4, b⟩
        try clear c_g1 f_g1 a_g1 d_g1 e_g1
        replace g1 := g1.below b; have c_g1 := g1.cell; have f_g1 := g1.free; have a_g1 := fun o => (g1.alloc o).cell; have d_g1 := fun o o2 => ((g1.alloc o).alloc o2).cell; have e_g1 := fun o => (g1.alloc o).free; try clear c_g2 f_g2 a_g2 d_g2 e_g2
        replace g2 := g2.below b; have c_g2 := g2.cell; have f_g2 := g2.free; have a_g2 := fun o => (g2.alloc o).cell; have d_g2 := fun o o2 => ((g2.alloc o).alloc o2).cell; have e_g2 := fun o => (g2.alloc o).free; try clear c_g3 f_g3 a_g3 d_g3 e_g3
        replace g3 := g3.below b; have c_g3 := g3.cell; have f_g3 := g3.free; have a_g3 := fun o => (g3.alloc o).cell; have d_g3 := fun o o2 => ((g3.alloc o).alloc o2).cell; have e_g3 := fun o => (g3.alloc o).free; try clear c_g5 f_g5 a_g5 d_g5 e_g5
        replace g5 := g5.below b; have c_g5 := g5.cell; have f_g5 := g5.free; have a_g5 := fun o => (g5.alloc o).cell; have d_g5 := fun o o2 => ((g5.alloc o).alloc o2).cell; have e_g5 := fun o => (g5.alloc o).free; replace om := om.below b; replace B := B.trans (b.mono B.size); clear b
        go_upto_region 22 with (fail)
        refine wp_gen (fun Wv => Bx Wv (wa15.heap.size) (24) (#[.int .i64 s4, .int .i64 g4]) ∧ Below wa15.heap.size wa15 Wv) ⟨((Bx.at_ (by simp))), ((Below.refl _ wa15).alloc (by simp <;> omega) _)⟩ ?_
        rintro wa16 ⟨g6, b⟩
        try clear c_g1 f_g1 a_g1 d_g1 e_g1
        replace g1 := g1.below b; have c_g1 := g1.cell; have f_g1 := g1.free; have a_g1 := fun o => (g1.alloc o).cell; have d_g1 := fun o o2 => ((g1.alloc o).alloc o2).cell; have e_g1 := fun o => (g1.alloc o).free; try clear c_g2 f_g2 a_g2 d_g2 e_g2
        replace g2 := g2.below b; have c_g2 := g2.cell; have f_g2 := g2.free; have a_g2 := fun o => (g2.alloc o).cell; have d_g2 := fun o o2 => ((g2.alloc o).alloc o2).cell; have e_g2 := fun o => (g2.alloc o).free; try clear c_g3 f_g3 a_g3 d_g3 e_g3
        replace g3 := g3.below b; have c_g3 := g3.cell; have f_g3 := g3.free; have a_g3 := fun o => (g3.alloc o).cell; have d_g3 := fun o o2 => ((g3.alloc o).alloc o2).cell; have e_g3 := fun o => (g3.alloc o).free; try clear c_g5 f_g5 a_g5 d_g5 e_g5
        replace g5 := g5.below b; have c_g5 := g5.cell; have f_g5 := g5.free; have a_g5 := fun o => (g5.alloc o).cell; have d_g5 := fun o o2 => ((g5.alloc o).alloc o2).cell; have e_g5 := fun o => (g5.alloc o).free; replace om := om.below b; replace o4 := o4.below b; replace B := B.trans (b.mono B.size); clear b
        have c_g6 := g6.cell; have f_g6 := g6.free; have a_g6 := fun o => (g6.alloc o).cell; have d_g6 := fun o o2 => ((g6.alloc o).alloc o2).cell; have e_g6 := fun o => (g6.alloc o).free
        go_wp2_with fail
        refine (OMo.out _ _ _ _ om.rd).mono ?_
        rintro e wa17 ⟨tb4, ob4, sb4, rfl, om4, b⟩
        try clear c_g1 f_g1 a_g1 d_g1 e_g1
        replace g1 := g1.below b; have c_g1 := g1.cell; have f_g1 := g1.free; have a_g1 := fun o => (g1.alloc o).cell; have d_g1 := fun o o2 => ((g1.alloc o).alloc o2).cell; have e_g1 := fun o => (g1.alloc o).free; try clear c_g2 f_g2 a_g2 d_g2 e_g2
        replace g2 := g2.below b; have c_g2 := g2.cell; have f_g2 := g2.free; have a_g2 := fun o => (g2.alloc o).cell; have d_g2 := fun o o2 => ((g2.alloc o).alloc o2).cell; have e_g2 := fun o => (g2.alloc o).free; try clear c_g3 f_g3 a_g3 d_g3 e_g3
        replace g3 := g3.below b; have c_g3 := g3.cell; have f_g3 := g3.free; have a_g3 := fun o => (g3.alloc o).cell; have d_g3 := fun o o2 => ((g3.alloc o).alloc o2).cell; have e_g3 := fun o => (g3.alloc o).free; try clear c_g5 f_g5 a_g5 d_g5 e_g5
        replace g5 := g5.below b; have c_g5 := g5.cell; have f_g5 := g5.free; have a_g5 := fun o => (g5.alloc o).cell; have d_g5 := fun o o2 => ((g5.alloc o).alloc o2).cell; have e_g5 := fun o => (g5.alloc o).free; replace om := om.below b; replace o4 := o4.below b; try clear c_g6 f_g6 a_g6 d_g6 e_g6
        replace g6 := g6.below b; have c_g6 := g6.cell; have f_g6 := g6.free; have a_g6 := fun o => (g6.alloc o).cell; have d_g6 := fun o o2 => ((g6.alloc o).alloc o2).cell; have e_g6 := fun o => (g6.alloc o).free; replace B := B.trans (b.mono B.size); clear b
        obtain ⟨⟨u4A, u4n, u4c, rfl⟩, ⟨p4A, p4n, p4c, rfl⟩, ⟨q4A, q4n, q4c, rfl⟩⟩ := om4.rd.forms2
        have hlt5 := g5.lt
        have hn1 : wa17.heap.size ≠ wa9.heap.size := by omega
        have hn2 : wa9.heap.size ≠ wa17.heap.size := by omega
        go_upto_region 23 with (fail)
        refine wp_gen (fun Wv => Bx Wv wa9.heap.size 87 #[.slice u4A u4n u4c, .slice p4A p4n p4c, .slice q4A q4n q4c] ∧ Bx Wv wa15.heap.size 24 #[.int .i64 s4, .int .i64 g4] ∧ Bx Wv wa17.heap.size 24 #[.int .i64 s4, .int .i64 g4] ∧ OwnM Wv wa16.heap.size 55 (.slice u4A u4n u4c) (.slice p4A p4n p4c) (.slice q4A q4n q4c) M4 ∧ Ents Wv y4 E4 ∧ Below w.heap.size w Wv) ?_ ?_
        · have z5 := g5.put3 (.slice u4A u4n u4c) (.slice p4A p4n p4c) (.slice q4A q4n q4c)
          have z6 := g6.far3 (g6.ne g5 (by decide)) (.slice u4A u4n u4c) (.slice p4A p4n p4c) (.slice q4A q4n q4c)
          have zm := OwnM.set3 (a := .slice u4A u4n u4c) (b := .slice p4A p4n p4c) (c := .slice q4A q4n q4c) om4 g5
          have ze := own_set3 o4 g5 (by decide) (.slice u4A u4n u4c) (.slice p4A p4n p4c) (.slice q4A q4n q4c)
          have zb := below_set3 B hlt0 (.slice u4A u4n u4c) (.slice p4A p4n p4c) (.slice q4A q4n q4c)
          generalize hW3 : (((wa17.setCell ⟨wa9.heap.size, 0, none⟩ (.slice u4A u4n u4c)).setCell ⟨wa9.heap.size, 1, none⟩ (.slice p4A p4n p4c)).setCell ⟨wa9.heap.size, 2, none⟩ (.slice q4A q4n q4c)) = W3 at *
          have hsz : W3.heap.size = wa17.heap.size := by rw [← hW3]; simp [World.setCell]
          have hal : Below W3.heap.size W3 (W3.alloc (.cells #[.int .i64 s4, .int .i64 g4] 24)) := (Below.refl _ _).alloc (Nat.le_refl _) _
          refine ⟨z5.below hal, z6.below hal, ?_, zm.below hal, (OwnE.below ze hal).rd, zb.trans (hal.mono zb.size)⟩
          rw [← hsz]; exact Bx.new _ _ _
        clear c_g1 f_g1 a_g1 d_g1 e_g1 c_g2 f_g2 a_g2 d_g2 e_g2 c_g3 f_g3 a_g3 d_g3 e_g3 c_g5 f_g5 a_g5 d_g5 e_g5 c_g6 f_g6 a_g6 d_g6 e_g6 g1 g2 g3 g5 g6 om om4 o4 B
        rintro wz ⟨g5, g6, g7, om4, q4, B⟩
        have c_g5 := g5.cell; have c_g6 := g6.cell; have c_g7 := g7.cell
        go_wp2
        go_ret
        exact ⟨rfl, B⟩
      · have n3 := nz _ c3; have n5 := nz _ c5; have n4 := nz _ c4; have m4 := nb _ c4
        have BT1 := Lib.hid (HB1.out c1)
        subst c1
        clear c3 c5 c4 HB1 HBA HBN HB4 nz nb
        go_enter Try.func12, Try.ntmps12
        go_upto_region 1 with (fail)
        refine wp_gen (fun Wv => Bx Wv (w.heap.size) (24) (#[.int .i64 a0, .int .i64 b0]) ∧ Bx Wv (w.heap.size + 1) (24) (#[.int .i64 a1, .int .i64 b1]) ∧ Below w.heap.size w Wv) ⟨(((Bx.at_ (by simp)).alloc _)), ((Bx.at_ (by simp))), (((Below.refl _ w).alloc (by simp <;> omega) _).alloc (by simp <;> omega) _)⟩ ?_
        rintro wa1 ⟨g1, g2, b⟩
        replace B := B.trans (b.mono B.size); clear b
        have c_g1 := g1.cell; have f_g1 := g1.free; have a_g1 := fun o => (g1.alloc o).cell; have d_g1 := fun o o2 => ((g1.alloc o).alloc o2).cell; have e_g1 := fun o => (g1.alloc o).free
        have c_g2 := g2.cell; have f_g2 := g2.free; have a_g2 := fun o => (g2.alloc o).cell; have d_g2 := fun o o2 => ((g2.alloc o).alloc o2).cell; have e_g2 := fun o => (g2.alloc o).free
        go_wp2_with fail
        refine (AL.out _).mono ?_
        rintro e wa2 ⟨rfl, b⟩
        try clear c_g1 f_g1 a_g1 d_g1 e_g1
        replace g1 := g1.below b; have c_g1 := g1.cell; have f_g1 := g1.free; have a_g1 := fun o => (g1.alloc o).cell; have d_g1 := fun o o2 => ((g1.alloc o).alloc o2).cell; have e_g1 := fun o => (g1.alloc o).free; try clear c_g2 f_g2 a_g2 d_g2 e_g2
        replace g2 := g2.below b; have c_g2 := g2.cell; have f_g2 := g2.free; have a_g2 := fun o => (g2.alloc o).cell; have d_g2 := fun o o2 => ((g2.alloc o).alloc o2).cell; have e_g2 := fun o => (g2.alloc o).free; replace B := B.trans (b.mono B.size); clear b
        go_wp2_with fail
        refine (G.out _ (H.out.below B)).mono ?_
        rintro e w2 ⟨rfl, rfl⟩
        go_wp2_with fail
        refine (CK.out _ (H.out.below B)).mono ?_
        rintro e wa3 ⟨rfl, b⟩
        try clear c_g1 f_g1 a_g1 d_g1 e_g1
        replace g1 := g1.below b; have c_g1 := g1.cell; have f_g1 := g1.free; have a_g1 := fun o => (g1.alloc o).cell; have d_g1 := fun o o2 => ((g1.alloc o).alloc o2).cell; have e_g1 := fun o => (g1.alloc o).free; try clear c_g2 f_g2 a_g2 d_g2 e_g2
        replace g2 := g2.below b; have c_g2 := g2.cell; have f_g2 := g2.free; have a_g2 := fun o => (g2.alloc o).cell; have d_g2 := fun o o2 => ((g2.alloc o).alloc o2).cell; have e_g2 := fun o => (g2.alloc o).free; replace B := B.trans (b.mono B.size); clear b
        go_wp2_with fail
        refine (OM.out _ (H.out.below B)).mono ?_
        rintro e wa4 ⟨ta, oa, sa, rfl, om, b⟩
        try clear c_g1 f_g1 a_g1 d_g1 e_g1
        replace g1 := g1.below b; have c_g1 := g1.cell; have f_g1 := g1.free; have a_g1 := fun o => (g1.alloc o).cell; have d_g1 := fun o o2 => ((g1.alloc o).alloc o2).cell; have e_g1 := fun o => (g1.alloc o).free; try clear c_g2 f_g2 a_g2 d_g2 e_g2
        replace g2 := g2.below b; have c_g2 := g2.cell; have f_g2 := g2.free; have a_g2 := fun o => (g2.alloc o).cell; have d_g2 := fun o o2 => ((g2.alloc o).alloc o2).cell; have e_g2 := fun o => (g2.alloc o).free; replace B := B.trans (b.mono B.size); clear b
        obtain ⟨⟨tA, tn, tc, rfl⟩, ⟨oA, on, oc, rfl⟩, ⟨sA, sn, sc, rfl⟩⟩ := om.rd.forms2
        go_upto_region 5 with (fail)
        refine wp_gen (fun Wv => Bx Wv (wa4.heap.size) (87) (#[.slice tA tn tc, .slice oA on oc, .slice sA sn sc]) ∧ Below wa4.heap.size wa4 Wv) ⟨((Bx.at_ (by simp))), ((Below.refl _ wa4).alloc (by simp <;> omega) _)⟩ ?_
        rintro wa5 ⟨g3, b⟩
        try clear c_g1 f_g1 a_g1 d_g1 e_g1
        replace g1 := g1.below b; have c_g1 := g1.cell; have f_g1 := g1.free; have a_g1 := fun o => (g1.alloc o).cell; have d_g1 := fun o o2 => ((g1.alloc o).alloc o2).cell; have e_g1 := fun o => (g1.alloc o).free; try clear c_g2 f_g2 a_g2 d_g2 e_g2
        replace g2 := g2.below b; have c_g2 := g2.cell; have f_g2 := g2.free; have a_g2 := fun o => (g2.alloc o).cell; have d_g2 := fun o o2 => ((g2.alloc o).alloc o2).cell; have e_g2 := fun o => (g2.alloc o).free; replace om := om.below b; replace B := B.trans (b.mono B.size); clear b
        have c_g3 := g3.cell; have f_g3 := g3.free; have a_g3 := fun o => (g3.alloc o).cell; have d_g3 := fun o o2 => ((g3.alloc o).alloc o2).cell; have e_g3 := fun o => (g3.alloc o).free
        go_wp2_with fail
        refine (GA.out _ (H.out.below B)).mono ?_
        rintro e wa6 ⟨rfl, b⟩
        try clear c_g1 f_g1 a_g1 d_g1 e_g1
        replace g1 := g1.below b; have c_g1 := g1.cell; have f_g1 := g1.free; have a_g1 := fun o => (g1.alloc o).cell; have d_g1 := fun o o2 => ((g1.alloc o).alloc o2).cell; have e_g1 := fun o => (g1.alloc o).free; try clear c_g2 f_g2 a_g2 d_g2 e_g2
        replace g2 := g2.below b; have c_g2 := g2.cell; have f_g2 := g2.free; have a_g2 := fun o => (g2.alloc o).cell; have d_g2 := fun o o2 => ((g2.alloc o).alloc o2).cell; have e_g2 := fun o => (g2.alloc o).free; replace om := om.below b; try clear c_g3 f_g3 a_g3 d_g3 e_g3
        replace g3 := g3.below b; have c_g3 := g3.cell; have f_g3 := g3.free; have a_g3 := fun o => (g3.alloc o).cell; have d_g3 := fun o o2 => ((g3.alloc o).alloc o2).cell; have e_g3 := fun o => (g3.alloc o).free; replace B := B.trans (b.mono B.size); clear b
        go_wp2_with fail
        refine (GM.out _ _ _ _ om.rd).mono ?_
        rintro e wa7 ⟨rfl, b⟩
        try clear c_g1 f_g1 a_g1 d_g1 e_g1
        replace g1 := g1.below b; have c_g1 := g1.cell; have f_g1 := g1.free; have a_g1 := fun o => (g1.alloc o).cell; have d_g1 := fun o o2 => ((g1.alloc o).alloc o2).cell; have e_g1 := fun o => (g1.alloc o).free; try clear c_g2 f_g2 a_g2 d_g2 e_g2
        replace g2 := g2.below b; have c_g2 := g2.cell; have f_g2 := g2.free; have a_g2 := fun o => (g2.alloc o).cell; have d_g2 := fun o o2 => ((g2.alloc o).alloc o2).cell; have e_g2 := fun o => (g2.alloc o).free; replace om := om.below b; try clear c_g3 f_g3 a_g3 d_g3 e_g3
        replace g3 := g3.below b; have c_g3 := g3.cell; have f_g3 := g3.free; have a_g3 := fun o => (g3.alloc o).cell; have d_g3 := fun o o2 => ((g3.alloc o).alloc o2).cell; have e_g3 := fun o => (g3.alloc o).free; replace B := B.trans (b.mono B.size); clear b
        go_wp2_with fail
        refine (SA.out _ (H.out.below B)).mono ?_
        rintro e wa8 ⟨y1, rfl, o1, b⟩
        try clear c_g1 f_g1 a_g1 d_g1 e_g1
        replace g1 := g1.below b; have c_g1 := g1.cell; have f_g1 := g1.free; have a_g1 := fun o => (g1.alloc o).cell; have d_g1 := fun o o2 => ((g1.alloc o).alloc o2).cell; have e_g1 := fun o => (g1.alloc o).free; try clear c_g2 f_g2 a_g2 d_g2 e_g2
        replace g2 := g2.below b; have c_g2 := g2.cell; have f_g2 := g2.free; have a_g2 := fun o => (g2.alloc o).cell; have d_g2 := fun o o2 => ((g2.alloc o).alloc o2).cell; have e_g2 := fun o => (g2.alloc o).free; replace om := om.below b; try clear c_g3 f_g3 a_g3 d_g3 e_g3
        replace g3 := g3.below b; have c_g3 := g3.cell; have f_g3 := g3.free; have a_g3 := fun o => (g3.alloc o).cell; have d_g3 := fun o o2 => ((g3.alloc o).alloc o2).cell; have e_g3 := fun o => (g3.alloc o).free; replace B := B.trans (b.mono B.size); clear b
        go_wp2_with fail
        refine (SMo.out _ _ _ _ om.rd).mono ?_
        rintro e wa9 ⟨tb, ob, sb, rfl, om2, b⟩
        try clear c_g1 f_g1 a_g1 d_g1 e_g1
        replace g1 := g1.below b; have c_g1 := g1.cell; have f_g1 := g1.free; have a_g1 := fun o => (g1.alloc o).cell; have d_g1 := fun o o2 => ((g1.alloc o).alloc o2).cell; have e_g1 := fun o => (g1.alloc o).free; try clear c_g2 f_g2 a_g2 d_g2 e_g2
        replace g2 := g2.below b; have c_g2 := g2.cell; have f_g2 := g2.free; have a_g2 := fun o => (g2.alloc o).cell; have d_g2 := fun o o2 => ((g2.alloc o).alloc o2).cell; have e_g2 := fun o => (g2.alloc o).free; replace om := om.below b; try clear c_g3 f_g3 a_g3 d_g3 e_g3
        replace g3 := g3.below b; have c_g3 := g3.cell; have f_g3 := g3.free; have a_g3 := fun o => (g3.alloc o).cell; have d_g3 := fun o o2 => ((g3.alloc o).alloc o2).cell; have e_g3 := fun o => (g3.alloc o).free; replace o1 := o1.below b; replace B := B.trans (b.mono B.size); clear b
        obtain ⟨⟨uA, un, uc, rfl⟩, ⟨pA, pn, pc, rfl⟩, ⟨qA, qn, qc, rfl⟩⟩ := om2.rd.forms2
        go_upto_region 11 with (fail)
        have hlt3 := g3.lt
        have hlt0 := B.size
        refine wp_gen (fun Wv => Bx Wv (wa9.heap.size) (87) (#[.slice uA un uc, .slice pA pn pc, .slice qA qn qc]) ∧ Below wa9.heap.size wa9 Wv) ⟨((Bx.at_ (by simp))), ((Below.refl _ wa9).alloc (by simp <;> omega) _)⟩ ?_
        rintro wa10 ⟨g5, b⟩
        try clear c_g1 f_g1 a_g1 d_g1 e_g1
        replace g1 := g1.below b; have c_g1 := g1.cell; have f_g1 := g1.free; have a_g1 := fun o => (g1.alloc o).cell; have d_g1 := fun o o2 => ((g1.alloc o).alloc o2).cell; have e_g1 := fun o => (g1.alloc o).free; try clear c_g2 f_g2 a_g2 d_g2 e_g2
        replace g2 := g2.below b; have c_g2 := g2.cell; have f_g2 := g2.free; have a_g2 := fun o => (g2.alloc o).cell; have d_g2 := fun o o2 => ((g2.alloc o).alloc o2).cell; have e_g2 := fun o => (g2.alloc o).free; replace om := om.below b; try clear c_g3 f_g3 a_g3 d_g3 e_g3
        replace g3 := g3.below b; have c_g3 := g3.cell; have f_g3 := g3.free; have a_g3 := fun o => (g3.alloc o).cell; have d_g3 := fun o o2 => ((g3.alloc o).alloc o2).cell; have e_g3 := fun o => (g3.alloc o).free; replace o1 := o1.below b; replace om2 := om2.below b; replace B := B.trans (b.mono B.size); clear b
        have c_g5 := g5.cell; have f_g5 := g5.free; have a_g5 := fun o => (g5.alloc o).cell; have d_g5 := fun o o2 => ((g5.alloc o).alloc o2).cell; have e_g5 := fun o => (g5.alloc o).free
        go_wp2_with fail
        refine (BT1.out _ _ _ _ _ (H.out.below B) o1.rd om2.rd).mono ?_
        rintro e wa11 ⟨rfl, b⟩
        try clear c_g1 f_g1 a_g1 d_g1 e_g1
        replace g1 := g1.below b; have c_g1 := g1.cell; have f_g1 := g1.free; have a_g1 := fun o => (g1.alloc o).cell; have d_g1 := fun o o2 => ((g1.alloc o).alloc o2).cell; have e_g1 := fun o => (g1.alloc o).free; try clear c_g2 f_g2 a_g2 d_g2 e_g2
        replace g2 := g2.below b; have c_g2 := g2.cell; have f_g2 := g2.free; have a_g2 := fun o => (g2.alloc o).cell; have d_g2 := fun o o2 => ((g2.alloc o).alloc o2).cell; have e_g2 := fun o => (g2.alloc o).free; replace om := om.below b; try clear c_g3 f_g3 a_g3 d_g3 e_g3
        replace g3 := g3.below b; have c_g3 := g3.cell; have f_g3 := g3.free; have a_g3 := fun o => (g3.alloc o).cell; have d_g3 := fun o o2 => ((g3.alloc o).alloc o2).cell; have e_g3 := fun o => (g3.alloc o).free; replace o1 := o1.below b; replace om2 := om2.below b; try clear c_g5 f_g5 a_g5 d_g5 e_g5
        replace g5 := g5.below b; have c_g5 := g5.cell; have f_g5 := g5.free; have a_g5 := fun o => (g5.alloc o).cell; have d_g5 := fun o o2 => ((g5.alloc o).alloc o2).cell; have e_g5 := fun o => (g5.alloc o).free; replace B := B.trans (b.mono B.size); clear b
        clear o1 om2
        go_wp2_with fail
        refine (RA.out _ _ (H.out.below B) ⟨_, rfl, g2⟩).mono ?_
        rintro e wa12 ⟨y2, rfl, o2, b⟩
        try clear c_g1 f_g1 a_g1 d_g1 e_g1
        replace g1 := g1.below b; have c_g1 := g1.cell; have f_g1 := g1.free; have a_g1 := fun o => (g1.alloc o).cell; have d_g1 := fun o o2 => ((g1.alloc o).alloc o2).cell; have e_g1 := fun o => (g1.alloc o).free; try clear c_g2 f_g2 a_g2 d_g2 e_g2
        replace g2 := g2.below b; have c_g2 := g2.cell; have f_g2 := g2.free; have a_g2 := fun o => (g2.alloc o).cell; have d_g2 := fun o o2 => ((g2.alloc o).alloc o2).cell; have e_g2 := fun o => (g2.alloc o).free; replace om := om.below b; try clear c_g3 f_g3 a_g3 d_g3 e_g3
        replace g3 := g3.below b; have c_g3 := g3.cell; have f_g3 := g3.free; have a_g3 := fun o => (g3.alloc o).cell; have d_g3 := fun o o2 => ((g3.alloc o).alloc o2).cell; have e_g3 := fun o => (g3.alloc o).free; try clear c_g5 f_g5 a_g5 d_g5 e_g5
        replace g5 := g5.below b; have c_g5 := g5.cell; have f_g5 := g5.free; have a_g5 := fun o => (g5.alloc o).cell; have d_g5 := fun o o2 => ((g5.alloc o).alloc o2).cell; have e_g5 := fun o => (g5.alloc o).free; replace B := B.trans (b.mono B.size); clear b
        go_wp2_with fail
        refine (RM.out _ _ _ _ _ om.rd ⟨_, rfl, g2⟩).mono ?_
        rintro e wa13 ⟨tb3, ob3, sb3, rfl, om3, b⟩
        try clear c_g1 f_g1 a_g1 d_g1 e_g1
        replace g1 := g1.below b; have c_g1 := g1.cell; have f_g1 := g1.free; have a_g1 := fun o => (g1.alloc o).cell; have d_g1 := fun o o2 => ((g1.alloc o).alloc o2).cell; have e_g1 := fun o => (g1.alloc o).free; try clear c_g2 f_g2 a_g2 d_g2 e_g2
        replace g2 := g2.below b; have c_g2 := g2.cell; have f_g2 := g2.free; have a_g2 := fun o => (g2.alloc o).cell; have d_g2 := fun o o2 => ((g2.alloc o).alloc o2).cell; have e_g2 := fun o => (g2.alloc o).free; replace om := om.below b; try clear c_g3 f_g3 a_g3 d_g3 e_g3
        replace g3 := g3.below b; have c_g3 := g3.cell; have f_g3 := g3.free; have a_g3 := fun o => (g3.alloc o).cell; have d_g3 := fun o o2 => ((g3.alloc o).alloc o2).cell; have e_g3 := fun o => (g3.alloc o).free; try clear c_g5 f_g5 a_g5 d_g5 e_g5
        replace g5 := g5.below b; have c_g5 := g5.cell; have f_g5 := g5.free; have a_g5 := fun o => (g5.alloc o).cell; have d_g5 := fun o o2 => ((g5.alloc o).alloc o2).cell; have e_g5 := fun o => (g5.alloc o).free; replace o2 := o2.below b; replace B := B.trans (b.mono B.size); clear b
        obtain ⟨⟨u3A, u3n, u3c, rfl⟩, ⟨p3A, p3n, p3c, rfl⟩, ⟨q3A, q3n, q3c, rfl⟩⟩ := om3.rd.forms2
        go_upto_region 15 with (fail)
        refine wp_gen (fun Wv => Bx Wv wa9.heap.size 87 #[.slice u3A u3n u3c, .slice p3A p3n p3c, .slice q3A q3n q3c] ∧ OwnM Wv wa12.heap.size 55 (.slice u3A u3n u3c) (.slice p3A p3n p3c) (.slice q3A q3n q3c) M3 ∧ OwnE Wv wa11.heap.size y2 E3 ∧ OwnM Wv wa3.heap.size 116 (.slice tA tn tc) (.slice oA on oc) (.slice sA sn sc) m ∧ Bx Wv w.heap.size 24 #[.int .i64 a0, .int .i64 b0] ∧ Bx Wv (w.heap.size + 1) 24 #[.int .i64 a1, .int .i64 b1] ∧ Bx Wv wa4.heap.size 87 #[.slice tA tn tc, .slice oA on oc, .slice sA sn sc] ∧ Below w.heap.size w Wv) ⟨g5.put3 _ _ _, OwnM.set3 om3 g5, own_set3 o2 g5 (by decide) _ _ _, OwnM.set3E om g5 (by decide), g1.far3 (g1.ne g5 (by decide)) _ _ _, g2.far3 (g2.ne g5 (by decide)) _ _ _, g3.far3 (by omega) _ _ _, below_set3 B hlt0 _ _ _⟩ ?_
        clear c_g1 f_g1 a_g1 d_g1 e_g1 c_g2 f_g2 a_g2 d_g2 e_g2 c_g3 f_g3 a_g3 d_g3 e_g3 c_g5 f_g5 a_g5 d_g5 e_g5 g1 g2 g3 g5 om om3 o2 B
        rintro wb15 ⟨g5, om3, o2, om, g1, g2, g3, B⟩
        have c_g1 := g1.cell; have f_g1 := g1.free; have a_g1 := fun o => (g1.alloc o).cell; have d_g1 := fun o o2 => ((g1.alloc o).alloc o2).cell; have e_g1 := fun o => (g1.alloc o).free
        have c_g2 := g2.cell; have f_g2 := g2.free; have a_g2 := fun o => (g2.alloc o).cell; have d_g2 := fun o o2 => ((g2.alloc o).alloc o2).cell; have e_g2 := fun o => (g2.alloc o).free
        have c_g3 := g3.cell; have f_g3 := g3.free; have a_g3 := fun o => (g3.alloc o).cell; have d_g3 := fun o o2 => ((g3.alloc o).alloc o2).cell; have e_g3 := fun o => (g3.alloc o).free
        have c_g5 := g5.cell; have f_g5 := g5.free; have a_g5 := fun o => (g5.alloc o).cell; have d_g5 := fun o o2 => ((g5.alloc o).alloc o2).cell; have e_g5 := fun o => (g5.alloc o).free
        clear o2 om3
        go_wp2_with fail
        refine (NA.out _ _ (H.out.below B) rfl).mono ?_
        rintro e wa14 ⟨y5, rfl, o5, b⟩
        try clear c_g1 f_g1 a_g1 d_g1 e_g1
        replace g1 := g1.below b; have c_g1 := g1.cell; have f_g1 := g1.free; have a_g1 := fun o => (g1.alloc o).cell; have d_g1 := fun o o2 => ((g1.alloc o).alloc o2).cell; have e_g1 := fun o => (g1.alloc o).free; try clear c_g2 f_g2 a_g2 d_g2 e_g2
        replace g2 := g2.below b; have c_g2 := g2.cell; have f_g2 := g2.free; have a_g2 := fun o => (g2.alloc o).cell; have d_g2 := fun o o2 => ((g2.alloc o).alloc o2).cell; have e_g2 := fun o => (g2.alloc o).free; try clear c_g3 f_g3 a_g3 d_g3 e_g3
        replace g3 := g3.below b; have c_g3 := g3.cell; have f_g3 := g3.free; have a_g3 := fun o => (g3.alloc o).cell; have d_g3 := fun o o2 => ((g3.alloc o).alloc o2).cell; have e_g3 := fun o => (g3.alloc o).free; try clear c_g5 f_g5 a_g5 d_g5 e_g5
        replace g5 := g5.below b; have c_g5 := g5.cell; have f_g5 := g5.free; have a_g5 := fun o => (g5.alloc o).cell; have d_g5 := fun o o2 => ((g5.alloc o).alloc o2).cell; have e_g5 := fun o => (g5.alloc o).free; replace om := om.below b; replace B := B.trans (b.mono B.size); clear b
        go_wp2_with fail
        refine (NM.out _ _ _ _ _ om.rd rfl).mono ?_
        rintro e wa15 ⟨tb5, ob5, sb5, rfl, om5, b⟩
        try clear c_g1 f_g1 a_g1 d_g1 e_g1
        replace g1 := g1.below b; have c_g1 := g1.cell; have f_g1 := g1.free; have a_g1 := fun o => (g1.alloc o).cell; have d_g1 := fun o o2 => ((g1.alloc o).alloc o2).cell; have e_g1 := fun o => (g1.alloc o).free; try clear c_g2 f_g2 a_g2 d_g2 e_g2
        replace g2 := g2.below b; have c_g2 := g2.cell; have f_g2 := g2.free; have a_g2 := fun o => (g2.alloc o).cell; have d_g2 := fun o o2 => ((g2.alloc o).alloc o2).cell; have e_g2 := fun o => (g2.alloc o).free; try clear c_g3 f_g3 a_g3 d_g3 e_g3
        replace g3 := g3.below b; have c_g3 := g3.cell; have f_g3 := g3.free; have a_g3 := fun o => (g3.alloc o).cell; have d_g3 := fun o o2 => ((g3.alloc o).alloc o2).cell; have e_g3 := fun o => (g3.alloc o).free; try clear c_g5 f_g5 a_g5 d_g5 e_g5
        replace g5 := g5.below b; have c_g5 := g5.cell; have f_g5 := g5.free; have a_g5 := fun o => (g5.alloc o).cell; have d_g5 := fun o o2 => ((g5.alloc o).alloc o2).cell; have e_g5 := fun o => (g5.alloc o).free; replace om := om.below b; replace o5 := o5.below b; replace B := B.trans (b.mono B.size); clear b
        obtain ⟨⟨u5A, u5n, u5c, rfl⟩, ⟨p5A, p5n, p5c, rfl⟩, ⟨q5A, q5n, q5c, rfl⟩⟩ := om5.rd.forms2
        go_upto_region 19 with (fail)
        refine wp_gen (fun Wv => Bx Wv wa9.heap.size 87 #[.slice u5A u5n u5c, .slice p5A p5n p5c, .slice q5A q5n q5c] ∧ OwnM Wv wa14.heap.size 55 (.slice u5A u5n u5c) (.slice p5A p5n p5c) (.slice q5A q5n q5c) M5 ∧ OwnE Wv wb15.heap.size y5 E5 ∧ OwnM Wv wa3.heap.size 116 (.slice tA tn tc) (.slice oA on oc) (.slice sA sn sc) m ∧ Bx Wv w.heap.size 24 #[.int .i64 a0, .int .i64 b0] ∧ Bx Wv (w.heap.size + 1) 24 #[.int .i64 a1, .int .i64 b1] ∧ Bx Wv wa4.heap.size 87 #[.slice tA tn tc, .slice oA on oc, .slice sA sn sc] ∧ Below w.heap.size w Wv) ⟨g5.put3 _ _ _, OwnM.set3 om5 g5, own_set3 o5 g5 (by decide) _ _ _, OwnM.set3E om g5 (by decide), g1.far3 (g1.ne g5 (by decide)) _ _ _, g2.far3 (g2.ne g5 (by decide)) _ _ _, g3.far3 (by omega) _ _ _, below_set3 B hlt0 _ _ _⟩ ?_
        clear c_g1 f_g1 a_g1 d_g1 e_g1 c_g2 f_g2 a_g2 d_g2 e_g2 c_g3 f_g3 a_g3 d_g3 e_g3 c_g5 f_g5 a_g5 d_g5 e_g5 g1 g2 g3 g5 om om5 o5 B
        rintro wb19 ⟨g5, om5, o5, om, g1, g2, g3, B⟩
        have c_g1 := g1.cell; have f_g1 := g1.free; have a_g1 := fun o => (g1.alloc o).cell; have d_g1 := fun o o2 => ((g1.alloc o).alloc o2).cell; have e_g1 := fun o => (g1.alloc o).free
        have c_g2 := g2.cell; have f_g2 := g2.free; have a_g2 := fun o => (g2.alloc o).cell; have d_g2 := fun o o2 => ((g2.alloc o).alloc o2).cell; have e_g2 := fun o => (g2.alloc o).free
        have c_g3 := g3.cell; have f_g3 := g3.free; have a_g3 := fun o => (g3.alloc o).cell; have d_g3 := fun o o2 => ((g3.alloc o).alloc o2).cell; have e_g3 := fun o => (g3.alloc o).free
        have c_g5 := g5.cell; have f_g5 := g5.free; have a_g5 := fun o => (g5.alloc o).cell; have d_g5 := fun o o2 => ((g5.alloc o).alloc o2).cell; have e_g5 := fun o => (g5.alloc o).free
        clear o5 om5
        go_wp2_with fail
        refine (OA.out _ (H.out.below B)).mono ?_
        rintro e wa16 ⟨y4, rfl, o4, b⟩
        try clear c_g1 f_g1 a_g1 d_g1 e_g1
        replace g1 := g1.below b; have c_g1 := g1.cell; have f_g1 := g1.free; have a_g1 := fun o => (g1.alloc o).cell; have d_g1 := fun o o2 => ((g1.alloc o).alloc o2).cell; have e_g1 := fun o => (g1.alloc o).free; try clear c_g2 f_g2 a_g2 d_g2 e_g2
        replace g2 := g2.below b; have c_g2 := g2.cell; have f_g2 := g2.free; have a_g2 := fun o => (g2.alloc o).cell; have d_g2 := fun o o2 => ((g2.alloc o).alloc o2).cell; have e_g2 := fun o => (g2.alloc o).free; try clear c_g3 f_g3 a_g3 d_g3 e_g3
        replace g3 := g3.below b; have c_g3 := g3.cell; have f_g3 := g3.free; have a_g3 := fun o => (g3.alloc o).cell; have d_g3 := fun o o2 => ((g3.alloc o).alloc o2).cell; have e_g3 := fun o => (g3.alloc o).free; try clear c_g5 f_g5 a_g5 d_g5 e_g5
        replace g5 := g5.below b; have c_g5 := g5.cell; have f_g5 := g5.free; have a_g5 := fun o => (g5.alloc o).cell; have d_g5 := fun o o2 => ((g5.alloc o).alloc o2).cell; have e_g5 := fun o => (g5.alloc o).free; replace om := om.below b; replace B := B.trans (b.mono B.size); clear b
        go_upto_region 22 with (fail)
        refine wp_gen (fun Wv => Bx Wv (wa16.heap.size) (24) (#[.int .i64 s4, .int .i64 g4]) ∧ Below wa16.heap.size wa16 Wv) ⟨((Bx.at_ (by simp))), ((Below.refl _ wa16).alloc (by simp <;> omega) _)⟩ ?_
        rintro wa17 ⟨g6, b⟩
        try clear c_g1 f_g1 a_g1 d_g1 e_g1
        replace g1 := g1.below b; have c_g1 := g1.cell; have f_g1 := g1.free; have a_g1 := fun o => (g1.alloc o).cell; have d_g1 := fun o o2 => ((g1.alloc o).alloc o2).cell; have e_g1 := fun o => (g1.alloc o).free; try clear c_g2 f_g2 a_g2 d_g2 e_g2
        replace g2 := g2.below b; have c_g2 := g2.cell; have f_g2 := g2.free; have a_g2 := fun o => (g2.alloc o).cell; have d_g2 := fun o o2 => ((g2.alloc o).alloc o2).cell; have e_g2 := fun o => (g2.alloc o).free; try clear c_g3 f_g3 a_g3 d_g3 e_g3
        replace g3 := g3.below b; have c_g3 := g3.cell; have f_g3 := g3.free; have a_g3 := fun o => (g3.alloc o).cell; have d_g3 := fun o o2 => ((g3.alloc o).alloc o2).cell; have e_g3 := fun o => (g3.alloc o).free; try clear c_g5 f_g5 a_g5 d_g5 e_g5
        replace g5 := g5.below b; have c_g5 := g5.cell; have f_g5 := g5.free; have a_g5 := fun o => (g5.alloc o).cell; have d_g5 := fun o o2 => ((g5.alloc o).alloc o2).cell; have e_g5 := fun o => (g5.alloc o).free; replace om := om.below b; replace o4 := o4.below b; replace B := B.trans (b.mono B.size); clear b
        have c_g6 := g6.cell; have f_g6 := g6.free; have a_g6 := fun o => (g6.alloc o).cell; have d_g6 := fun o o2 => ((g6.alloc o).alloc o2).cell; have e_g6 := fun o => (g6.alloc o).free
        go_wp2_with fail
        refine (OMo.out _ _ _ _ om.rd).mono ?_
        rintro e wa18 ⟨tb4, ob4, sb4, rfl, om4, b⟩
        try clear c_g1 f_g1 a_g1 d_g1 e_g1
        replace g1 := g1.below b; have c_g1 := g1.cell; have f_g1 := g1.free; have a_g1 := fun o => (g1.alloc o).cell; have d_g1 := fun o o2 => ((g1.alloc o).alloc o2).cell; have e_g1 := fun o => (g1.alloc o).free; try clear c_g2 f_g2 a_g2 d_g2 e_g2
        replace g2 := g2.below b; have c_g2 := g2.cell; have f_g2 := g2.free; have a_g2 := fun o => (g2.alloc o).cell; have d_g2 := fun o o2 => ((g2.alloc o).alloc o2).cell; have e_g2 := fun o => (g2.alloc o).free; try clear c_g3 f_g3 a_g3 d_g3 e_g3
        replace g3 := g3.below b; have c_g3 := g3.cell; have f_g3 := g3.free; have a_g3 := fun o => (g3.alloc o).cell; have d_g3 := fun o o2 => ((g3.alloc o).alloc o2).cell; have e_g3 := fun o => (g3.alloc o).free; try clear c_g5 f_g5 a_g5 d_g5 e_g5
        replace g5 := g5.below b; have c_g5 := g5.cell; have f_g5 := g5.free; have a_g5 := fun o => (g5.alloc o).cell; have d_g5 := fun o o2 => ((g5.alloc o).alloc o2).cell; have e_g5 := fun o => (g5.alloc o).free; replace om := om.below b; replace o4 := o4.below b; try clear c_g6 f_g6 a_g6 d_g6 e_g6
        replace g6 := g6.below b; have c_g6 := g6.cell; have f_g6 := g6.free; have a_g6 := fun o => (g6.alloc o).cell; have d_g6 := fun o o2 => ((g6.alloc o).alloc o2).cell; have e_g6 := fun o => (g6.alloc o).free; replace B := B.trans (b.mono B.size); clear b
        obtain ⟨⟨u4A, u4n, u4c, rfl⟩, ⟨p4A, p4n, p4c, rfl⟩, ⟨q4A, q4n, q4c, rfl⟩⟩ := om4.rd.forms2
        have hlt5 := g5.lt
        have hn1 : wa18.heap.size ≠ wa9.heap.size := by omega
        have hn2 : wa9.heap.size ≠ wa18.heap.size := by omega
        go_upto_region 23 with (fail)
        refine wp_gen (fun Wv => Bx Wv wa9.heap.size 87 #[.slice u4A u4n u4c, .slice p4A p4n p4c, .slice q4A q4n q4c] ∧ Bx Wv wa16.heap.size 24 #[.int .i64 s4, .int .i64 g4] ∧ Bx Wv wa18.heap.size 24 #[.int .i64 s4, .int .i64 g4] ∧ OwnM Wv wa17.heap.size 55 (.slice u4A u4n u4c) (.slice p4A p4n p4c) (.slice q4A q4n q4c) M4 ∧ Ents Wv y4 E4 ∧ Below w.heap.size w Wv) ?_ ?_
        · have z5 := g5.put3 (.slice u4A u4n u4c) (.slice p4A p4n p4c) (.slice q4A q4n q4c)
          have z6 := g6.far3 (g6.ne g5 (by decide)) (.slice u4A u4n u4c) (.slice p4A p4n p4c) (.slice q4A q4n q4c)
          have zm := OwnM.set3 (a := .slice u4A u4n u4c) (b := .slice p4A p4n p4c) (c := .slice q4A q4n q4c) om4 g5
          have ze := own_set3 o4 g5 (by decide) (.slice u4A u4n u4c) (.slice p4A p4n p4c) (.slice q4A q4n q4c)
          have zb := below_set3 B hlt0 (.slice u4A u4n u4c) (.slice p4A p4n p4c) (.slice q4A q4n q4c)
          generalize hW3 : (((wa18.setCell ⟨wa9.heap.size, 0, none⟩ (.slice u4A u4n u4c)).setCell ⟨wa9.heap.size, 1, none⟩ (.slice p4A p4n p4c)).setCell ⟨wa9.heap.size, 2, none⟩ (.slice q4A q4n q4c)) = W3 at *
          have hsz : W3.heap.size = wa18.heap.size := by rw [← hW3]; simp [World.setCell]
          have hal : Below W3.heap.size W3 (W3.alloc (.cells #[.int .i64 s4, .int .i64 g4] 24)) := (Below.refl _ _).alloc (Nat.le_refl _) _
          refine ⟨z5.below hal, z6.below hal, ?_, zm.below hal, (OwnE.below ze hal).rd, zb.trans (hal.mono zb.size)⟩
          rw [← hsz]; exact Bx.new _ _ _
        clear c_g1 f_g1 a_g1 d_g1 e_g1 c_g2 f_g2 a_g2 d_g2 e_g2 c_g3 f_g3 a_g3 d_g3 e_g3 c_g5 f_g5 a_g5 d_g5 e_g5 c_g6 f_g6 a_g6 d_g6 e_g6 g1 g2 g3 g5 g6 om om4 o4 B
        rintro wz ⟨g5, g6, g7, om4, q4, B⟩
        have c_g5 := g5.cell; have c_g6 := g6.cell; have c_g7 := g7.cell
        go_wp2
        go_ret
        exact ⟨rfl, B⟩
      · have n1 := nz _ c1
        have BT5 := Lib.hid (HBN.out c5)
        subst c5
        by_cases c3 : r3 = 0 <;> by_cases c4 : r4 = 0
        · have BT3 := Lib.hid (HBA.out c3)
          have BT4 := Lib.hid (HB4.out c4)
          subst c3; subst c4
          clear c1 HB1 HBA HBN HB4 nz nb
          go_enter Try.func12, Try.ntmps12
          go_upto_region 1 with (fail)
          refine wp_gen (fun Wv => Bx Wv (w.heap.size) (24) (#[.int .i64 a0, .int .i64 b0]) ∧ Bx Wv (w.heap.size + 1) (24) (#[.int .i64 a1, .int .i64 b1]) ∧ Below w.heap.size w Wv) ⟨(((Bx.at_ (by simp)).alloc _)), ((Bx.at_ (by simp))), (((Below.refl _ w).alloc (by simp <;> omega) _).alloc (by simp <;> omega) _)⟩ ?_
          rintro wa1 ⟨g1, g2, b⟩
          replace B := B.trans (b.mono B.size); clear b
          have c_g1 := g1.cell; have f_g1 := g1.free; have a_g1 := fun o => (g1.alloc o).cell; have d_g1 := fun o o2 => ((g1.alloc o).alloc o2).cell; have e_g1 := fun o => (g1.alloc o).free
          have c_g2 := g2.cell; have f_g2 := g2.free; have a_g2 := fun o => (g2.alloc o).cell; have d_g2 := fun o o2 => ((g2.alloc o).alloc o2).cell; have e_g2 := fun o => (g2.alloc o).free
          go_wp2_with fail
          refine (AL.out _).mono ?_
          rintro e wa2 ⟨rfl, b⟩
          try clear c_g1 f_g1 a_g1 d_g1 e_g1
          replace g1 := g1.below b; have c_g1 := g1.cell; have f_g1 := g1.free; have a_g1 := fun o => (g1.alloc o).cell; have d_g1 := fun o o2 => ((g1.alloc o).alloc o2).cell; have e_g1 := fun o => (g1.alloc o).free; try clear c_g2 f_g2 a_g2 d_g2 e_g2
          replace g2 := g2.below b; have c_g2 := g2.cell; have f_g2 := g2.free; have a_g2 := fun o => (g2.alloc o).cell; have d_g2 := fun o o2 => ((g2.alloc o).alloc o2).cell; have e_g2 := fun o => (g2.alloc o).free; replace B := B.trans (b.mono B.size); clear b
          go_wp2_with fail
          refine (G.out _ (H.out.below B)).mono ?_
          rintro e w2 ⟨rfl, rfl⟩
          go_wp2_with fail
          refine (CK.out _ (H.out.below B)).mono ?_
          rintro e wa3 ⟨rfl, b⟩
          try clear c_g1 f_g1 a_g1 d_g1 e_g1
          replace g1 := g1.below b; have c_g1 := g1.cell; have f_g1 := g1.free; have a_g1 := fun o => (g1.alloc o).cell; have d_g1 := fun o o2 => ((g1.alloc o).alloc o2).cell; have e_g1 := fun o => (g1.alloc o).free; try clear c_g2 f_g2 a_g2 d_g2 e_g2
          replace g2 := g2.below b; have c_g2 := g2.cell; have f_g2 := g2.free; have a_g2 := fun o => (g2.alloc o).cell; have d_g2 := fun o o2 => ((g2.alloc o).alloc o2).cell; have e_g2 := fun o => (g2.alloc o).free; replace B := B.trans (b.mono B.size); clear b
          go_wp2_with fail
          refine (OM.out _ (H.out.below B)).mono ?_
          rintro e wa4 ⟨ta, oa, sa, rfl, om, b⟩
          try clear c_g1 f_g1 a_g1 d_g1 e_g1
          replace g1 := g1.below b; have c_g1 := g1.cell; have f_g1 := g1.free; have a_g1 := fun o => (g1.alloc o).cell; have d_g1 := fun o o2 => ((g1.alloc o).alloc o2).cell; have e_g1 := fun o => (g1.alloc o).free; try clear c_g2 f_g2 a_g2 d_g2 e_g2
          replace g2 := g2.below b; have c_g2 := g2.cell; have f_g2 := g2.free; have a_g2 := fun o => (g2.alloc o).cell; have d_g2 := fun o o2 => ((g2.alloc o).alloc o2).cell; have e_g2 := fun o => (g2.alloc o).free; replace B := B.trans (b.mono B.size); clear b
          obtain ⟨⟨tA, tn, tc, rfl⟩, ⟨oA, on, oc, rfl⟩, ⟨sA, sn, sc, rfl⟩⟩ := om.rd.forms2
          go_upto_region 5 with (fail)
          refine wp_gen (fun Wv => Bx Wv (wa4.heap.size) (87) (#[.slice tA tn tc, .slice oA on oc, .slice sA sn sc]) ∧ Below wa4.heap.size wa4 Wv) ⟨((Bx.at_ (by simp))), ((Below.refl _ wa4).alloc (by simp <;> omega) _)⟩ ?_
          rintro wa5 ⟨g3, b⟩
          try clear c_g1 f_g1 a_g1 d_g1 e_g1
          replace g1 := g1.below b; have c_g1 := g1.cell; have f_g1 := g1.free; have a_g1 := fun o => (g1.alloc o).cell; have d_g1 := fun o o2 => ((g1.alloc o).alloc o2).cell; have e_g1 := fun o => (g1.alloc o).free; try clear c_g2 f_g2 a_g2 d_g2 e_g2
          replace g2 := g2.below b; have c_g2 := g2.cell; have f_g2 := g2.free; have a_g2 := fun o => (g2.alloc o).cell; have d_g2 := fun o o2 => ((g2.alloc o).alloc o2).cell; have e_g2 := fun o => (g2.alloc o).free; replace om := om.below b; replace B := B.trans (b.mono B.size); clear b
          have c_g3 := g3.cell; have f_g3 := g3.free; have a_g3 := fun o => (g3.alloc o).cell; have d_g3 := fun o o2 => ((g3.alloc o).alloc o2).cell; have e_g3 := fun o => (g3.alloc o).free
          go_wp2_with fail
          refine (GA.out _ (H.out.below B)).mono ?_
          rintro e wa6 ⟨rfl, b⟩
          try clear c_g1 f_g1 a_g1 d_g1 e_g1
          replace g1 := g1.below b; have c_g1 := g1.cell; have f_g1 := g1.free; have a_g1 := fun o => (g1.alloc o).cell; have d_g1 := fun o o2 => ((g1.alloc o).alloc o2).cell; have e_g1 := fun o => (g1.alloc o).free; try clear c_g2 f_g2 a_g2 d_g2 e_g2
          replace g2 := g2.below b; have c_g2 := g2.cell; have f_g2 := g2.free; have a_g2 := fun o => (g2.alloc o).cell; have d_g2 := fun o o2 => ((g2.alloc o).alloc o2).cell; have e_g2 := fun o => (g2.alloc o).free; replace om := om.below b; try clear c_g3 f_g3 a_g3 d_g3 e_g3
          replace g3 := g3.below b; have c_g3 := g3.cell; have f_g3 := g3.free; have a_g3 := fun o => (g3.alloc o).cell; have d_g3 := fun o o2 => ((g3.alloc o).alloc o2).cell; have e_g3 := fun o => (g3.alloc o).free; replace B := B.trans (b.mono B.size); clear b
          go_wp2_with fail
          refine (GM.out _ _ _ _ om.rd).mono ?_
          rintro e wa7 ⟨rfl, b⟩
          try clear c_g1 f_g1 a_g1 d_g1 e_g1
          replace g1 := g1.below b; have c_g1 := g1.cell; have f_g1 := g1.free; have a_g1 := fun o => (g1.alloc o).cell; have d_g1 := fun o o2 => ((g1.alloc o).alloc o2).cell; have e_g1 := fun o => (g1.alloc o).free; try clear c_g2 f_g2 a_g2 d_g2 e_g2
          replace g2 := g2.below b; have c_g2 := g2.cell; have f_g2 := g2.free; have a_g2 := fun o => (g2.alloc o).cell; have d_g2 := fun o o2 => ((g2.alloc o).alloc o2).cell; have e_g2 := fun o => (g2.alloc o).free; replace om := om.below b; try clear c_g3 f_g3 a_g3 d_g3 e_g3
          replace g3 := g3.below b; have c_g3 := g3.cell; have f_g3 := g3.free; have a_g3 := fun o => (g3.alloc o).cell; have d_g3 := fun o o2 => ((g3.alloc o).alloc o2).cell; have e_g3 := fun o => (g3.alloc o).free; replace B := B.trans (b.mono B.size); clear b
          go_wp2_with fail
          refine (SA.out _ (H.out.below B)).mono ?_
          rintro e wa8 ⟨y1, rfl, o1, b⟩
          try clear c_g1 f_g1 a_g1 d_g1 e_g1
          replace g1 := g1.below b; have c_g1 := g1.cell; have f_g1 := g1.free; have a_g1 := fun o => (g1.alloc o).cell; have d_g1 := fun o o2 => ((g1.alloc o).alloc o2).cell; have e_g1 := fun o => (g1.alloc o).free; try clear c_g2 f_g2 a_g2 d_g2 e_g2
          replace g2 := g2.below b; have c_g2 := g2.cell; have f_g2 := g2.free; have a_g2 := fun o => (g2.alloc o).cell; have d_g2 := fun o o2 => ((g2.alloc o).alloc o2).cell; have e_g2 := fun o => (g2.alloc o).free; replace om := om.below b; try clear c_g3 f_g3 a_g3 d_g3 e_g3
          replace g3 := g3.below b; have c_g3 := g3.cell; have f_g3 := g3.free; have a_g3 := fun o => (g3.alloc o).cell; have d_g3 := fun o o2 => ((g3.alloc o).alloc o2).cell; have e_g3 := fun o => (g3.alloc o).free; replace B := B.trans (b.mono B.size); clear b
          go_wp2_with fail
          refine (SMo.out _ _ _ _ om.rd).mono ?_
          rintro e wa9 ⟨tb, ob, sb, rfl, om2, b⟩
          try clear c_g1 f_g1 a_g1 d_g1 e_g1
          replace g1 := g1.below b; have c_g1 := g1.cell; have f_g1 := g1.free; have a_g1 := fun o => (g1.alloc o).cell; have d_g1 := fun o o2 => ((g1.alloc o).alloc o2).cell; have e_g1 := fun o => (g1.alloc o).free; try clear c_g2 f_g2 a_g2 d_g2 e_g2
          replace g2 := g2.below b; have c_g2 := g2.cell; have f_g2 := g2.free; have a_g2 := fun o => (g2.alloc o).cell; have d_g2 := fun o o2 => ((g2.alloc o).alloc o2).cell; have e_g2 := fun o => (g2.alloc o).free; replace om := om.below b; try clear c_g3 f_g3 a_g3 d_g3 e_g3
          replace g3 := g3.below b; have c_g3 := g3.cell; have f_g3 := g3.free; have a_g3 := fun o => (g3.alloc o).cell; have d_g3 := fun o o2 => ((g3.alloc o).alloc o2).cell; have e_g3 := fun o => (g3.alloc o).free; replace o1 := o1.below b; replace B := B.trans (b.mono B.size); clear b
          obtain ⟨⟨uA, un, uc, rfl⟩, ⟨pA, pn, pc, rfl⟩, ⟨qA, qn, qc, rfl⟩⟩ := om2.rd.forms2
          go_upto_region 11 with (fail)
          have hlt3 := g3.lt
          have hlt0 := B.size
          refine wp_gen (fun Wv => Bx Wv (wa9.heap.size) (87) (#[.slice uA un uc, .slice pA pn pc, .slice qA qn qc]) ∧ Below wa9.heap.size wa9 Wv) ⟨((Bx.at_ (by simp))), ((Below.refl _ wa9).alloc (by simp <;> omega) _)⟩ ?_
          rintro wa10 ⟨g5, b⟩
          try clear c_g1 f_g1 a_g1 d_g1 e_g1
          replace g1 := g1.below b; have c_g1 := g1.cell; have f_g1 := g1.free; have a_g1 := fun o => (g1.alloc o).cell; have d_g1 := fun o o2 => ((g1.alloc o).alloc o2).cell; have e_g1 := fun o => (g1.alloc o).free; try clear c_g2 f_g2 a_g2 d_g2 e_g2
          replace g2 := g2.below b; have c_g2 := g2.cell; have f_g2 := g2.free; have a_g2 := fun o => (g2.alloc o).cell; have d_g2 := fun o o2 => ((g2.alloc o).alloc o2).cell; have e_g2 := fun o => (g2.alloc o).free; replace om := om.below b; try clear c_g3 f_g3 a_g3 d_g3 e_g3
          replace g3 := g3.below b; have c_g3 := g3.cell; have f_g3 := g3.free; have a_g3 := fun o => (g3.alloc o).cell; have d_g3 := fun o o2 => ((g3.alloc o).alloc o2).cell; have e_g3 := fun o => (g3.alloc o).free; replace o1 := o1.below b; replace om2 := om2.below b; replace B := B.trans (b.mono B.size); clear b
          have c_g5 := g5.cell; have f_g5 := g5.free; have a_g5 := fun o => (g5.alloc o).cell; have d_g5 := fun o o2 => ((g5.alloc o).alloc o2).cell; have e_g5 := fun o => (g5.alloc o).free
          clear o1 om2
          go_wp2_with fail
          refine (RA.out _ _ (H.out.below B) ⟨_, rfl, g2⟩).mono ?_
          rintro e wa11 ⟨y2, rfl, o2, b⟩
          try clear c_g1 f_g1 a_g1 d_g1 e_g1
          replace g1 := g1.below b; have c_g1 := g1.cell; have f_g1 := g1.free; have a_g1 := fun o => (g1.alloc o).cell; have d_g1 := fun o o2 => ((g1.alloc o).alloc o2).cell; have e_g1 := fun o => (g1.alloc o).free; try clear c_g2 f_g2 a_g2 d_g2 e_g2
          replace g2 := g2.below b; have c_g2 := g2.cell; have f_g2 := g2.free; have a_g2 := fun o => (g2.alloc o).cell; have d_g2 := fun o o2 => ((g2.alloc o).alloc o2).cell; have e_g2 := fun o => (g2.alloc o).free; replace om := om.below b; try clear c_g3 f_g3 a_g3 d_g3 e_g3
          replace g3 := g3.below b; have c_g3 := g3.cell; have f_g3 := g3.free; have a_g3 := fun o => (g3.alloc o).cell; have d_g3 := fun o o2 => ((g3.alloc o).alloc o2).cell; have e_g3 := fun o => (g3.alloc o).free; try clear c_g5 f_g5 a_g5 d_g5 e_g5
          replace g5 := g5.below b; have c_g5 := g5.cell; have f_g5 := g5.free; have a_g5 := fun o => (g5.alloc o).cell; have d_g5 := fun o o2 => ((g5.alloc o).alloc o2).cell; have e_g5 := fun o => (g5.alloc o).free; replace B := B.trans (b.mono B.size); clear b
          go_wp2_with fail
          refine (RM.out _ _ _ _ _ om.rd ⟨_, rfl, g2⟩).mono ?_
          rintro e wa12 ⟨tb3, ob3, sb3, rfl, om3, b⟩
          try clear c_g1 f_g1 a_g1 d_g1 e_g1
          replace g1 := g1.below b; have c_g1 := g1.cell; have f_g1 := g1.free; have a_g1 := fun o => (g1.alloc o).cell; have d_g1 := fun o o2 => ((g1.alloc o).alloc o2).cell; have e_g1 := fun o => (g1.alloc o).free; try clear c_g2 f_g2 a_g2 d_g2 e_g2
          replace g2 := g2.below b; have c_g2 := g2.cell; have f_g2 := g2.free; have a_g2 := fun o => (g2.alloc o).cell; have d_g2 := fun o o2 => ((g2.alloc o).alloc o2).cell; have e_g2 := fun o => (g2.alloc o).free; replace om := om.below b; try clear c_g3 f_g3 a_g3 d_g3 e_g3
          replace g3 := g3.below b; have c_g3 := g3.cell; have f_g3 := g3.free; have a_g3 := fun o => (g3.alloc o).cell; have d_g3 := fun o o2 => ((g3.alloc o).alloc o2).cell; have e_g3 := fun o => (g3.alloc o).free; try clear c_g5 f_g5 a_g5 d_g5 e_g5
          replace g5 := g5.below b; have c_g5 := g5.cell; have f_g5 := g5.free; have a_g5 := fun o => (g5.alloc o).cell; have d_g5 := fun o o2 => ((g5.alloc o).alloc o2).cell; have e_g5 := fun o => (g5.alloc o).free; replace o2 := o2.below b; replace B := B.trans (b.mono B.size); clear b
          obtain ⟨⟨u3A, u3n, u3c, rfl⟩, ⟨p3A, p3n, p3c, rfl⟩, ⟨q3A, q3n, q3c, rfl⟩⟩ := om3.rd.forms2
          go_upto_region 15 with (fail)
          refine wp_gen (fun Wv => Bx Wv wa9.heap.size 87 #[.slice u3A u3n u3c, .slice p3A p3n p3c, .slice q3A q3n q3c] ∧ OwnM Wv wa11.heap.size 55 (.slice u3A u3n u3c) (.slice p3A p3n p3c) (.slice q3A q3n q3c) M3 ∧ OwnE Wv wa10.heap.size y2 E3 ∧ OwnM Wv wa3.heap.size 116 (.slice tA tn tc) (.slice oA on oc) (.slice sA sn sc) m ∧ Bx Wv w.heap.size 24 #[.int .i64 a0, .int .i64 b0] ∧ Bx Wv (w.heap.size + 1) 24 #[.int .i64 a1, .int .i64 b1] ∧ Bx Wv wa4.heap.size 87 #[.slice tA tn tc, .slice oA on oc, .slice sA sn sc] ∧ Below w.heap.size w Wv) ⟨g5.put3 _ _ _, OwnM.set3 om3 g5, own_set3 o2 g5 (by decide) _ _ _, OwnM.set3E om g5 (by decide), g1.far3 (g1.ne g5 (by decide)) _ _ _, g2.far3 (g2.ne g5 (by decide)) _ _ _, g3.far3 (by omega) _ _ _, below_set3 B hlt0 _ _ _⟩ ?_
          clear c_g1 f_g1 a_g1 d_g1 e_g1 c_g2 f_g2 a_g2 d_g2 e_g2 c_g3 f_g3 a_g3 d_g3 e_g3 c_g5 f_g5 a_g5 d_g5 e_g5 g1 g2 g3 g5 om om3 o2 B
          rintro wb15 ⟨g5, om3, o2, om, g1, g2, g3, B⟩
          have c_g1 := g1.cell; have f_g1 := g1.free; have a_g1 := fun o => (g1.alloc o).cell; have d_g1 := fun o o2 => ((g1.alloc o).alloc o2).cell; have e_g1 := fun o => (g1.alloc o).free
          have c_g2 := g2.cell; have f_g2 := g2.free; have a_g2 := fun o => (g2.alloc o).cell; have d_g2 := fun o o2 => ((g2.alloc o).alloc o2).cell; have e_g2 := fun o => (g2.alloc o).free
          have c_g3 := g3.cell; have f_g3 := g3.free; have a_g3 := fun o => (g3.alloc o).cell; have d_g3 := fun o o2 => ((g3.alloc o).alloc o2).cell; have e_g3 := fun o => (g3.alloc o).free
          have c_g5 := g5.cell; have f_g5 := g5.free; have a_g5 := fun o => (g5.alloc o).cell; have d_g5 := fun o o2 => ((g5.alloc o).alloc o2).cell; have e_g5 := fun o => (g5.alloc o).free
          go_wp2_with fail
          refine (BT3.out _ _ _ _ _ (H.out.below B) o2.rd om3.rd).mono ?_
          rintro e wa13 ⟨rfl, b⟩
          try clear c_g1 f_g1 a_g1 d_g1 e_g1
          replace g1 := g1.below b; have c_g1 := g1.cell; have f_g1 := g1.free; have a_g1 := fun o => (g1.alloc o).cell; have d_g1 := fun o o2 => ((g1.alloc o).alloc o2).cell; have e_g1 := fun o => (g1.alloc o).free; try clear c_g2 f_g2 a_g2 d_g2 e_g2
          replace g2 := g2.below b; have c_g2 := g2.cell; have f_g2 := g2.free; have a_g2 := fun o => (g2.alloc o).cell; have d_g2 := fun o o2 => ((g2.alloc o).alloc o2).cell; have e_g2 := fun o => (g2.alloc o).free; try clear c_g3 f_g3 a_g3 d_g3 e_g3
          replace g3 := g3.below b; have c_g3 := g3.cell; have f_g3 := g3.free; have a_g3 := fun o => (g3.alloc o).cell; have d_g3 := fun o o2 => ((g3.alloc o).alloc o2).cell; have e_g3 := fun o => (g3.alloc o).free; try clear c_g5 f_g5 a_g5 d_g5 e_g5
          replace g5 := g5.below b; have c_g5 := g5.cell; have f_g5 := g5.free; have a_g5 := fun o => (g5.alloc o).cell; have d_g5 := fun o o2 => ((g5.alloc o).alloc o2).cell; have e_g5 := fun o => (g5.alloc o).free; replace om := om.below b; replace om3 := om3.below b; replace o2 := o2.below b; replace B := B.trans (b.mono B.size); clear b
          clear o2 om3
          go_wp2_with fail
          refine (NA.out _ _ (H.out.below B) rfl).mono ?_
          rintro e wa14 ⟨y5, rfl, o5, b⟩
          try clear c_g1 f_g1 a_g1 d_g1 e_g1
          replace g1 := g1.below b; have c_g1 := g1.cell; have f_g1 := g1.free; have a_g1 := fun o => (g1.alloc o).cell; have d_g1 := fun o o2 => ((g1.alloc o).alloc o2).cell; have e_g1 := fun o => (g1.alloc o).free; try clear c_g2 f_g2 a_g2 d_g2 e_g2
          replace g2 := g2.below b; have c_g2 := g2.cell; have f_g2 := g2.free; have a_g2 := fun o => (g2.alloc o).cell; have d_g2 := fun o o2 => ((g2.alloc o).alloc o2).cell; have e_g2 := fun o => (g2.alloc o).free; try clear c_g3 f_g3 a_g3 d_g3 e_g3
          replace g3 := g3.below b; have c_g3 := g3.cell; have f_g3 := g3.free; have a_g3 := fun o => (g3.alloc o).cell; have d_g3 := fun o o2 => ((g3.alloc o).alloc o2).cell; have e_g3 := fun o => (g3.alloc o).free; try clear c_g5 f_g5 a_g5 d_g5 e_g5
          replace g5 := g5.below b; have c_g5 := g5.cell; have f_g5 := g5.free; have a_g5 := fun o => (g5.alloc o).cell; have d_g5 := fun o o2 => ((g5.alloc o).alloc o2).cell; have e_g5 := fun o => (g5.alloc o).free; replace om := om.below b; replace B := B.trans (b.mono B.size); clear b
          go_wp2_with fail
          refine (NM.out _ _ _ _ _ om.rd rfl).mono ?_
          rintro e wa15 ⟨tb5, ob5, sb5, rfl, om5, b⟩
          try clear c_g1 f_g1 a_g1 d_g1 e_g1
          replace g1 := g1.below b; have c_g1 := g1.cell; have f_g1 := g1.free; have a_g1 := fun o => (g1.alloc o).cell; have d_g1 := fun o o2 => ((g1.alloc o).alloc o2).cell; have e_g1 := fun o => (g1.alloc o).free; try clear c_g2 f_g2 a_g2 d_g2 e_g2
          replace g2 := g2.below b; have c_g2 := g2.cell; have f_g2 := g2.free; have a_g2 := fun o => (g2.alloc o).cell; have d_g2 := fun o o2 => ((g2.alloc o).alloc o2).cell; have e_g2 := fun o => (g2.alloc o).free; try clear c_g3 f_g3 a_g3 d_g3 e_g3
          replace g3 := g3.below b; have c_g3 := g3.cell; have f_g3 := g3.free; have a_g3 := fun o => (g3.alloc o).cell; have d_g3 := fun o o2 => ((g3.alloc o).alloc o2).cell; have e_g3 := fun o => (g3.alloc o).free; try clear c_g5 f_g5 a_g5 d_g5 e_g5
          replace g5 := g5.below b; have c_g5 := g5.cell; have f_g5 := g5.free; have a_g5 := fun o => (g5.alloc o).cell; have d_g5 := fun o o2 => ((g5.alloc o).alloc o2).cell; have e_g5 := fun o => (g5.alloc o).free; replace om := om.below b; replace o5 := o5.below b; replace B := B.trans (b.mono B.size); clear b
          obtain ⟨⟨u5A, u5n, u5c, rfl⟩, ⟨p5A, p5n, p5c, rfl⟩, ⟨q5A, q5n, q5c, rfl⟩⟩ := om5.rd.forms2
          go_upto_region 19 with (fail)
          refine wp_gen (fun Wv => Bx Wv wa9.heap.size 87 #[.slice u5A u5n u5c, .slice p5A p5n p5c, .slice q5A q5n q5c] ∧ OwnM Wv wa14.heap.size 55 (.slice u5A u5n u5c) (.slice p5A p5n p5c) (.slice q5A q5n q5c) M5 ∧ OwnE Wv wa13.heap.size y5 E5 ∧ OwnM Wv wa3.heap.size 116 (.slice tA tn tc) (.slice oA on oc) (.slice sA sn sc) m ∧ Bx Wv w.heap.size 24 #[.int .i64 a0, .int .i64 b0] ∧ Bx Wv (w.heap.size + 1) 24 #[.int .i64 a1, .int .i64 b1] ∧ Bx Wv wa4.heap.size 87 #[.slice tA tn tc, .slice oA on oc, .slice sA sn sc] ∧ Below w.heap.size w Wv) ⟨g5.put3 _ _ _, OwnM.set3 om5 g5, own_set3 o5 g5 (by decide) _ _ _, OwnM.set3E om g5 (by decide), g1.far3 (g1.ne g5 (by decide)) _ _ _, g2.far3 (g2.ne g5 (by decide)) _ _ _, g3.far3 (by omega) _ _ _, below_set3 B hlt0 _ _ _⟩ ?_
          clear c_g1 f_g1 a_g1 d_g1 e_g1 c_g2 f_g2 a_g2 d_g2 e_g2 c_g3 f_g3 a_g3 d_g3 e_g3 c_g5 f_g5 a_g5 d_g5 e_g5 g1 g2 g3 g5 om om5 o5 B
          rintro wb19 ⟨g5, om5, o5, om, g1, g2, g3, B⟩
          have c_g1 := g1.cell; have f_g1 := g1.free; have a_g1 := fun o => (g1.alloc o).cell; have d_g1 := fun o o2 => ((g1.alloc o).alloc o2).cell; have e_g1 := fun o => (g1.alloc o).free
          have c_g2 := g2.cell; have f_g2 := g2.free; have a_g2 := fun o => (g2.alloc o).cell; have d_g2 := fun o o2 => ((g2.alloc o).alloc o2).cell; have e_g2 := fun o => (g2.alloc o).free
          have c_g3 := g3.cell; have f_g3 := g3.free; have a_g3 := fun o => (g3.alloc o).cell; have d_g3 := fun o o2 => ((g3.alloc o).alloc o2).cell; have e_g3 := fun o => (g3.alloc o).free
          have c_g5 := g5.cell; have f_g5 := g5.free; have a_g5 := fun o => (g5.alloc o).cell; have d_g5 := fun o o2 => ((g5.alloc o).alloc o2).cell; have e_g5 := fun o => (g5.alloc o).free
          go_wp2_with fail
          refine (BT5.out _ _ _ _ _ (H.out.below B) o5.rd om5.rd).mono ?_
          rintro e wa16 ⟨rfl, b⟩
          try clear c_g1 f_g1 a_g1 d_g1 e_g1
          replace g1 := g1.below b; have c_g1 := g1.cell; have f_g1 := g1.free; have a_g1 := fun o => (g1.alloc o).cell; have d_g1 := fun o o2 => ((g1.alloc o).alloc o2).cell; have e_g1 := fun o => (g1.alloc o).free; try clear c_g2 f_g2 a_g2 d_g2 e_g2
          replace g2 := g2.below b; have c_g2 := g2.cell; have f_g2 := g2.free; have a_g2 := fun o => (g2.alloc o).cell; have d_g2 := fun o o2 => ((g2.alloc o).alloc o2).cell; have e_g2 := fun o => (g2.alloc o).free; try clear c_g3 f_g3 a_g3 d_g3 e_g3
          replace g3 := g3.below b; have c_g3 := g3.cell; have f_g3 := g3.free; have a_g3 := fun o => (g3.alloc o).cell; have d_g3 := fun o o2 => ((g3.alloc o).alloc o2).cell; have e_g3 := fun o => (g3.alloc o).free; try clear c_g5 f_g5 a_g5 d_g5 e_g5
          replace g5 := g5.below b; have c_g5 := g5.cell; have f_g5 := g5.free; have a_g5 := fun o => (g5.alloc o).cell; have d_g5 := fun o o2 => ((g5.alloc o).alloc o2).cell; have e_g5 := fun o => (g5.alloc o).free; replace om := om.below b; replace om5 := om5.below b; replace o5 := o5.below b; replace B := B.trans (b.mono B.size); clear b
          clear o5 om5
          go_wp2_with fail
          refine (OA.out _ (H.out.below B)).mono ?_
          rintro e wa17 ⟨y4, rfl, o4, b⟩
          try clear c_g1 f_g1 a_g1 d_g1 e_g1
          replace g1 := g1.below b; have c_g1 := g1.cell; have f_g1 := g1.free; have a_g1 := fun o => (g1.alloc o).cell; have d_g1 := fun o o2 => ((g1.alloc o).alloc o2).cell; have e_g1 := fun o => (g1.alloc o).free; try clear c_g2 f_g2 a_g2 d_g2 e_g2
          replace g2 := g2.below b; have c_g2 := g2.cell; have f_g2 := g2.free; have a_g2 := fun o => (g2.alloc o).cell; have d_g2 := fun o o2 => ((g2.alloc o).alloc o2).cell; have e_g2 := fun o => (g2.alloc o).free; try clear c_g3 f_g3 a_g3 d_g3 e_g3
          replace g3 := g3.below b; have c_g3 := g3.cell; have f_g3 := g3.free; have a_g3 := fun o => (g3.alloc o).cell; have d_g3 := fun o o2 => ((g3.alloc o).alloc o2).cell; have e_g3 := fun o => (g3.alloc o).free; try clear c_g5 f_g5 a_g5 d_g5 e_g5
          replace g5 := g5.below b; have c_g5 := g5.cell; have f_g5 := g5.free; have a_g5 := fun o => (g5.alloc o).cell; have d_g5 := fun o o2 => ((g5.alloc o).alloc o2).cell; have e_g5 := fun o => (g5.alloc o).free; replace om := om.below b; replace B := B.trans (b.mono B.size); clear b
          go_upto_region 22 with (fail)
          refine wp_gen (fun Wv => Bx Wv (wa17.heap.size) (24) (#[.int .i64 s4, .int .i64 g4]) ∧ Below wa17.heap.size wa17 Wv) ⟨((Bx.at_ (by simp))), ((Below.refl _ wa17).alloc (by simp <;> omega) _)⟩ ?_
          rintro wa18 ⟨g6, b⟩
          try clear c_g1 f_g1 a_g1 d_g1 e_g1
          replace g1 := g1.below b; have c_g1 := g1.cell; have f_g1 := g1.free; have a_g1 := fun o => (g1.alloc o).cell; have d_g1 := fun o o2 => ((g1.alloc o).alloc o2).cell; have e_g1 := fun o => (g1.alloc o).free; try clear c_g2 f_g2 a_g2 d_g2 e_g2
          replace g2 := g2.below b; have c_g2 := g2.cell; have f_g2 := g2.free; have a_g2 := fun o => (g2.alloc o).cell; have d_g2 := fun o o2 => ((g2.alloc o).alloc o2).cell; have e_g2 := fun o => (g2.alloc o).free; try clear c_g3 f_g3 a_g3 d_g3 e_g3
          replace g3 := g3.below b; have c_g3 := g3.cell; have f_g3 := g3.free; have a_g3 := fun o => (g3.alloc o).cell; have d_g3 := fun o o2 => ((g3.alloc o).alloc o2).cell; have e_g3 := fun o => (g3.alloc o).free; try clear c_g5 f_g5 a_g5 d_g5 e_g5
          replace g5 := g5.below b; have c_g5 := g5.cell; have f_g5 := g5.free; have a_g5 := fun o => (g5.alloc o).cell; have d_g5 := fun o o2 => ((g5.alloc o).alloc o2).cell; have e_g5 := fun o => (g5.alloc o).free; replace om := om.below b; replace o4 := o4.below b; replace B := B.trans (b.mono B.size); clear b
          have c_g6 := g6.cell; have f_g6 := g6.free; have a_g6 := fun o => (g6.alloc o).cell; have d_g6 := fun o o2 => ((g6.alloc o).alloc o2).cell; have e_g6 := fun o => (g6.alloc o).free
          go_wp2_with fail
          refine (OMo.out _ _ _ _ om.rd).mono ?_
          rintro e wa19 ⟨tb4, ob4, sb4, rfl, om4, b⟩
          try clear c_g1 f_g1 a_g1 d_g1 e_g1
          replace g1 := g1.below b; have c_g1 := g1.cell; have f_g1 := g1.free; have a_g1 := fun o => (g1.alloc o).cell; have d_g1 := fun o o2 => ((g1.alloc o).alloc o2).cell; have e_g1 := fun o => (g1.alloc o).free; try clear c_g2 f_g2 a_g2 d_g2 e_g2
          replace g2 := g2.below b; have c_g2 := g2.cell; have f_g2 := g2.free; have a_g2 := fun o => (g2.alloc o).cell; have d_g2 := fun o o2 => ((g2.alloc o).alloc o2).cell; have e_g2 := fun o => (g2.alloc o).free; try clear c_g3 f_g3 a_g3 d_g3 e_g3
          replace g3 := g3.below b; have c_g3 := g3.cell; have f_g3 := g3.free; have a_g3 := fun o => (g3.alloc o).cell; have d_g3 := fun o o2 => ((g3.alloc o).alloc o2).cell; have e_g3 := fun o => (g3.alloc o).free; try clear c_g5 f_g5 a_g5 d_g5 e_g5
          replace g5 := g5.below b; have c_g5 := g5.cell; have f_g5 := g5.free; have a_g5 := fun o => (g5.alloc o).cell; have d_g5 := fun o o2 => ((g5.alloc o).alloc o2).cell; have e_g5 := fun o => (g5.alloc o).free; replace om := om.below b; replace o4 := o4.below b; try clear c_g6 f_g6 a_g6 d_g6 e_g6
          replace g6 := g6.below b; have c_g6 := g6.cell; have f_g6 := g6.free; have a_g6 := fun o => (g6.alloc o).cell; have d_g6 := fun o o2 => ((g6.alloc o).alloc o2).cell; have e_g6 := fun o => (g6.alloc o).free; replace B := B.trans (b.mono B.size); clear b
          obtain ⟨⟨u4A, u4n, u4c, rfl⟩, ⟨p4A, p4n, p4c, rfl⟩, ⟨q4A, q4n, q4c, rfl⟩⟩ := om4.rd.forms2
          have hlt5 := g5.lt
          have hn1 : wa19.heap.size ≠ wa9.heap.size := by omega
          have hn2 : wa9.heap.size ≠ wa19.heap.size := by omega
          go_upto_region 23 with (fail)
          refine wp_gen (fun Wv => Bx Wv wa9.heap.size 87 #[.slice u4A u4n u4c, .slice p4A p4n p4c, .slice q4A q4n q4c] ∧ Bx Wv wa17.heap.size 24 #[.int .i64 s4, .int .i64 g4] ∧ Bx Wv wa19.heap.size 24 #[.int .i64 s4, .int .i64 g4] ∧ OwnM Wv wa18.heap.size 55 (.slice u4A u4n u4c) (.slice p4A p4n p4c) (.slice q4A q4n q4c) M4 ∧ Ents Wv y4 E4 ∧ Below w.heap.size w Wv) ?_ ?_
          · have z5 := g5.put3 (.slice u4A u4n u4c) (.slice p4A p4n p4c) (.slice q4A q4n q4c)
            have z6 := g6.far3 (g6.ne g5 (by decide)) (.slice u4A u4n u4c) (.slice p4A p4n p4c) (.slice q4A q4n q4c)
            have zm := OwnM.set3 (a := .slice u4A u4n u4c) (b := .slice p4A p4n p4c) (c := .slice q4A q4n q4c) om4 g5
            have ze := own_set3 o4 g5 (by decide) (.slice u4A u4n u4c) (.slice p4A p4n p4c) (.slice q4A q4n q4c)
            have zb := below_set3 B hlt0 (.slice u4A u4n u4c) (.slice p4A p4n p4c) (.slice q4A q4n q4c)
            generalize hW3 : (((wa19.setCell ⟨wa9.heap.size, 0, none⟩ (.slice u4A u4n u4c)).setCell ⟨wa9.heap.size, 1, none⟩ (.slice p4A p4n p4c)).setCell ⟨wa9.heap.size, 2, none⟩ (.slice q4A q4n q4c)) = W3 at *
            have hsz : W3.heap.size = wa19.heap.size := by rw [← hW3]; simp [World.setCell]
            have hal : Below W3.heap.size W3 (W3.alloc (.cells #[.int .i64 s4, .int .i64 g4] 24)) := (Below.refl _ _).alloc (Nat.le_refl _) _
            refine ⟨z5.below hal, z6.below hal, ?_, zm.below hal, (OwnE.below ze hal).rd, zb.trans (hal.mono zb.size)⟩
            rw [← hsz]; exact Bx.new _ _ _
          clear c_g1 f_g1 a_g1 d_g1 e_g1 c_g2 f_g2 a_g2 d_g2 e_g2 c_g3 f_g3 a_g3 d_g3 e_g3 c_g5 f_g5 a_g5 d_g5 e_g5 c_g6 f_g6 a_g6 d_g6 e_g6 g1 g2 g3 g5 g6 om om4 o4 B
          rintro wz ⟨g5, g6, g7, om4, q4, B⟩
          have c_g5 := g5.cell; have c_g6 := g6.cell; have c_g7 := g7.cell
          go_wp2_with fail
          refine (BT4.out _ _ _ _ _ (H.out.below B) q4 om4.rd).mono ?_
          rintro e wa20 ⟨rfl, b⟩
          replace B := B.trans (b.mono B.size); clear b
          go_wp2
          go_ret
          exact ⟨rfl, B⟩
        · have BT3 := Lib.hid (HBA.out c3)
          have n4 := nz _ c4; have m4 := nb _ c4
          subst c3
          clear c1 c4 HB1 HBA HBN HB4 nz nb
          go_enter Try.func12, Try.ntmps12
          go_upto_region 1 with (fail)
          refine wp_gen (fun Wv => Bx Wv (w.heap.size) (24) (#[.int .i64 a0, .int .i64 b0]) ∧ Bx Wv (w.heap.size + 1) (24) (#[.int .i64 a1, .int .i64 b1]) ∧ Below w.heap.size w Wv) ⟨(((Bx.at_ (by simp)).alloc _)), ((Bx.at_ (by simp))), (((Below.refl _ w).alloc (by simp <;> omega) _).alloc (by simp <;> omega) _)⟩ ?_
          rintro wa1 ⟨g1, g2, b⟩
          replace B := B.trans (b.mono B.size); clear b
          have c_g1 := g1.cell; have f_g1 := g1.free; have a_g1 := fun o => (g1.alloc o).cell; have d_g1 := fun o o2 => ((g1.alloc o).alloc o2).cell; have e_g1 := fun o => (g1.alloc o).free
          have c_g2 := g2.cell; have f_g2 := g2.free; have a_g2 := fun o => (g2.alloc o).cell; have d_g2 := fun o o2 => ((g2.alloc o).alloc o2).cell; have e_g2 := fun o => (g2.alloc o).free
          go_wp2_with fail
          refine (AL.out _).mono ?_
          rintro e wa2 ⟨rfl, b⟩
          try clear c_g1 f_g1 a_g1 d_g1 e_g1
          replace g1 := g1.below b; have c_g1 := g1.cell; have f_g1 := g1.free; have a_g1 := fun o => (g1.alloc o).cell; have d_g1 := fun o o2 => ((g1.alloc o).alloc o2).cell; have e_g1 := fun o => (g1.alloc o).free; try clear c_g2 f_g2 a_g2 d_g2 e_g2
          replace g2 := g2.below b; have c_g2 := g2.cell; have f_g2 := g2.free; have a_g2 := fun o => (g2.alloc o).cell; have d_g2 := fun o o2 => ((g2.alloc o).alloc o2).cell; have e_g2 := fun o => (g2.alloc o).free; replace B := B.trans (b.mono B.size); clear b
          go_wp2_with fail
          refine (G.out _ (H.out.below B)).mono ?_
          rintro e w2 ⟨rfl, rfl⟩
          go_wp2_with fail
          refine (CK.out _ (H.out.below B)).mono ?_
          rintro e wa3 ⟨rfl, b⟩
          try clear c_g1 f_g1 a_g1 d_g1 e_g1
          replace g1 := g1.below b; have c_g1 := g1.cell; have f_g1 := g1.free; have a_g1 := fun o => (g1.alloc o).cell; have d_g1 := fun o o2 => ((g1.alloc o).alloc o2).cell; have e_g1 := fun o => (g1.alloc o).free; try clear c_g2 f_g2 a_g2 d_g2 e_g2
          replace g2 := g2.below b; have c_g2 := g2.cell; have f_g2 := g2.free; have a_g2 := fun o => (g2.alloc o).cell; have d_g2 := fun o o2 => ((g2.alloc o).alloc o2).cell; have e_g2 := fun o => (g2.alloc o).free; replace B := B.trans (b.mono B.size); clear b
          go_wp2_with fail
          refine (OM.out _ (H.out.below B)).mono ?_
          rintro e wa4 ⟨ta, oa, sa, rfl, om, b⟩
          try clear c_g1 f_g1 a_g1 d_g1 e_g1
          replace g1 := g1.below b; have c_g1 := g1.cell; have f_g1 := g1.free; have a_g1 := fun o => (g1.alloc o).cell; have d_g1 := fun o o2 => ((g1.alloc o).alloc o2).cell; have e_g1 := fun o => (g1.alloc o).free; try clear c_g2 f_g2 a_g2 d_g2 e_g2
          replace g2 := g2.below b; have c_g2 := g2.cell; have f_g2 := g2.free; have a_g2 := fun o => (g2.alloc o).cell; have d_g2 := fun o o2 => ((g2.alloc o).alloc o2).cell; have e_g2 := fun o => (g2.alloc o).free; replace B := B.trans (b.mono B.size); clear b
          obtain ⟨⟨tA, tn, tc, rfl⟩, ⟨oA, on, oc, rfl⟩, ⟨sA, sn, sc, rfl⟩⟩ := om.rd.forms2
          go_upto_region 5 with (fail)
          refine wp_gen (fun Wv => Bx Wv (wa4.heap.size) (87) (#[.slice tA tn tc, .slice oA on oc, .slice sA sn sc]) ∧ Below wa4.heap.size wa4 Wv) ⟨((Bx.at_ (by simp))), ((Below.refl _ wa4).alloc (by simp <;> omega) _)⟩ ?_
          rintro wa5 ⟨g3, b⟩
          try clear c_g1 f_g1 a_g1 d_g1 e_g1
          replace g1 := g1.below b; have c_g1 := g1.cell; have f_g1 := g1.free; have a_g1 := fun o => (g1.alloc o).cell; have d_g1 := fun o o2 => ((g1.alloc o).alloc o2).cell; have e_g1 := fun o => (g1.alloc o).free; try clear c_g2 f_g2 a_g2 d_g2 e_g2
          replace g2 := g2.below b; have c_g2 := g2.cell; have f_g2 := g2.free; have a_g2 := fun o => (g2.alloc o).cell; have d_g2 := fun o o2 => ((g2.alloc o).alloc o2).cell; have e_g2 := fun o => (g2.alloc o).free; replace om := om.below b; replace B := B.trans (b.mono B.size); clear b
          have c_g3 := g3.cell; have f_g3 := g3.free; have a_g3 := fun o => (g3.alloc o).cell; have d_g3 := fun o o2 => ((g3.alloc o).alloc o2).cell; have e_g3 := fun o => (g3.alloc o).free
          go_wp2_with fail
          refine (GA.out _ (H.out.below B)).mono ?_
          rintro e wa6 ⟨rfl, b⟩
          try clear c_g1 f_g1 a_g1 d_g1 e_g1
          replace g1 := g1.below b; have c_g1 := g1.cell; have f_g1 := g1.free; have a_g1 := fun o => (g1.alloc o).cell; have d_g1 := fun o o2 => ((g1.alloc o).alloc o2).cell; have e_g1 := fun o => (g1.alloc o).free; try clear c_g2 f_g2 a_g2 d_g2 e_g2
          replace g2 := g2.below b; have c_g2 := g2.cell; have f_g2 := g2.free; have a_g2 := fun o => (g2.alloc o).cell; have d_g2 := fun o o2 => ((g2.alloc o).alloc o2).cell; have e_g2 := fun o => (g2.alloc o).free; replace om := om.below b; try clear c_g3 f_g3 a_g3 d_g3 e_g3
          replace g3 := g3.below b; have c_g3 := g3.cell; have f_g3 := g3.free; have a_g3 := fun o => (g3.alloc o).cell; have d_g3 := fun o o2 => ((g3.alloc o).alloc o2).cell; have e_g3 := fun o => (g3.alloc o).free; replace B := B.trans (b.mono B.size); clear b
          go_wp2_with fail
          refine (GM.out _ _ _ _ om.rd).mono ?_
          rintro e wa7 ⟨rfl, b⟩
          try clear c_g1 f_g1 a_g1 d_g1 e_g1
          replace g1 := g1.below b; have c_g1 := g1.cell; have f_g1 := g1.free; have a_g1 := fun o => (g1.alloc o).cell; have d_g1 := fun o o2 => ((g1.alloc o).alloc o2).cell; have e_g1 := fun o => (g1.alloc o).free; try clear c_g2 f_g2 a_g2 d_g2 e_g2
          replace g2 := g2.below b; have c_g2 := g2.cell; have f_g2 := g2.free; have a_g2 := fun o => (g2.alloc o).cell; have d_g2 := fun o o2 => ((g2.alloc o).alloc o2).cell; have e_g2 := fun o => (g2.alloc o).free; replace om := om.below b; try clear c_g3 f_g3 a_g3 d_g3 e_g3
          replace g3 := g3.below b; have c_g3 := g3.cell; have f_g3 := g3.free; have a_g3 := fun o => (g3.alloc o).cell; have d_g3 := fun o o2 => ((g3.alloc o).alloc o2).cell; have e_g3 := fun o => (g3.alloc o).free; replace B := B.trans (b.mono B.size); clear b
          go_wp2_with fail
          refine (SA.out _ (H.out.below B)).mono ?_
          rintro e wa8 ⟨y1, rfl, o1, b⟩
          try clear c_g1 f_g1 a_g1 d_g1 e_g1
          replace g1 := g1.below b; have c_g1 := g1.cell; have f_g1 := g1.free; have a_g1 := fun o => (g1.alloc o).cell; have d_g1 := fun o o2 => ((g1.alloc o).alloc o2).cell; have e_g1 := fun o => (g1.alloc o).free; try clear c_g2 f_g2 a_g2 d_g2 e_g2
          replace g2 := g2.below b; have c_g2 := g2.cell; have f_g2 := g2.free; have a_g2 := fun o => (g2.alloc o).cell; have d_g2 := fun o o2 => ((g2.alloc o).alloc o2).cell; have e_g2 := fun o => (g2.alloc o).free; replace om := om.below b; try clear c_g3 f_g3 a_g3 d_g3 e_g3
          replace g3 := g3.below b; have c_g3 := g3.cell; have f_g3 := g3.free; have a_g3 := fun o => (g3.alloc o).cell; have d_g3 := fun o o2 => ((g3.alloc o).alloc o2).cell; have e_g3 := fun o => (g3.alloc o).free; replace B := B.trans (b.mono B.size); clear b
          go_wp2_with fail
          refine (SMo.out _ _ _ _ om.rd).mono ?_
          rintro e wa9 ⟨tb, ob, sb, rfl, om2, b⟩
          try clear c_g1 f_g1 a_g1 d_g1 e_g1
          replace g1 := g1.below b; have c_g1 := g1.cell; have f_g1 := g1.free; have a_g1 := fun o => (g1.alloc o).cell; have d_g1 := fun o o2 => ((g1.alloc o).alloc o2).cell; have e_g1 := fun o => (g1.alloc o).free; try clear c_g2 f_g2 a_g2 d_g2 e_g2
          replace g2 := g2.below b; have c_g2 := g2.cell; have f_g2 := g2.free; have a_g2 := fun o => (g2.alloc o).cell; have d_g2 := fun o o2 => ((g2.alloc o).alloc o2).cell; have e_g2 := fun o => (g2.alloc o).free; replace om := om.below b; try clear c_g3 f_g3 a_g3 d_g3 e_g3
          replace g3 := g3.below b; have c_g3 := g3.cell; have f_g3 := g3.free; have a_g3 := fun o => (g3.alloc o).cell; have d_g3 := fun o o2 => ((g3.alloc o).alloc o2).cell; have e_g3 := fun o => (g3.alloc o).free; replace o1 := o1.below b; replace B := B.trans (b.mono B.size); clear b
          obtain ⟨⟨uA, un, uc, rfl⟩, ⟨pA, pn, pc, rfl⟩, ⟨qA, qn, qc, rfl⟩⟩ := om2.rd.forms2
          go_upto_region 11 with (fail)
          have hlt3 := g3.lt
          have hlt0 := B.size
          refine wp_gen (fun Wv => Bx Wv (wa9.heap.size) (87) (#[.slice uA un uc, .slice pA pn pc, .slice qA qn qc]) ∧ Below wa9.heap.size wa9 Wv) ⟨((Bx.at_ (by simp))), ((Below.refl _ wa9).alloc (by simp <;> omega) _)⟩ ?_
          rintro wa10 ⟨g5, b⟩
          try clear c_g1 f_g1 a_g1 d_g1 e_g1
          replace g1 := g1.below b; have c_g1 := g1.cell; have f_g1 := g1.free; have a_g1 := fun o => (g1.alloc o).cell; have d_g1 := fun o o2 => ((g1.alloc o).alloc o2).cell; have e_g1 := fun o => (g1.alloc o).free; try clear c_g2 f_g2 a_g2 d_g2 e_g2
          replace g2 := g2.below b; have c_g2 := g2.cell; have f_g2 := g2.free; have a_g2 := fun o => (g2.alloc o).cell; have d_g2 := fun o o2 => ((g2.alloc o).alloc o2).cell; have e_g2 := fun o => (g2.alloc o).free; replace om := om.below b; try clear c_g3 f_g3 a_g3 d_g3 e_g3
          replace g3 := g3.below b; have c_g3 := g3.cell; have f_g3 := g3.free; have a_g3 := fun o => (g3.alloc o).cell; have d_g3 := fun o o2 => ((g3.alloc o).alloc o2).cell; have e_g3 := fun o => (g3.alloc o).free; replace o1 := o1.below b; replace om2 := om2.below b; replace B := B.trans (b.mono B.size); clear b
          have c_g5 := g5.cell; have f_g5 := g5.free; have a_g5 := fun o => (g5.alloc o).cell; have d_g5 := fun o o2 => ((g5.alloc o).alloc o2).cell; have e_g5 := fun o => (g5.alloc o).free
          clear o1 om2
          go_wp2_with fail
          refine (RA.out _ _ (H.out.below B) ⟨_, rfl, g2⟩).mono ?_
          rintro e wa11 ⟨y2, rfl, o2, b⟩
          try clear c_g1 f_g1 a_g1 d_g1 e_g1
          replace g1 := g1.below b; have c_g1 := g1.cell; have f_g1 := g1.free; have a_g1 := fun o => (g1.alloc o).cell; have d_g1 := fun o o2 => ((g1.alloc o).alloc o2).cell; have e_g1 := fun o => (g1.alloc o).free; try clear c_g2 f_g2 a_g2 d_g2 e_g2
          replace g2 := g2.below b; have c_g2 := g2.cell; have f_g2 := g2.free; have a_g2 := fun o => (g2.alloc o).cell; have d_g2 := fun o o2 => ((g2.alloc o).alloc o2).cell; have e_g2 := fun o => (g2.alloc o).free; replace om := om.below b; try clear c_g3 f_g3 a_g3 d_g3 e_g3
          replace g3 := g3.below b; have c_g3 := g3.cell; have f_g3 := g3.free; have a_g3 := fun o => (g3.alloc o).cell; have d_g3 := fun o o2 => ((g3.alloc o).alloc o2).cell; have e_g3 := fun o => (g3.alloc o).free; try clear c_g5 f_g5 a_g5 d_g5 e_g5
          replace g5 := g5.below b; have c_g5 := g5.cell; have f_g5 := g5.free; have a_g5 := fun o => (g5.alloc o).cell; have d_g5 := fun o o2 => ((g5.alloc o).alloc o2).cell; have e_g5 := fun o => (g5.alloc o).free; replace B := B.trans (b.mono B.size); clear b
          go_wp2_with fail
          refine (RM.out _ _ _ _ _ om.rd ⟨_, rfl, g2⟩).mono ?_
          rintro e wa12 ⟨tb3, ob3, sb3, rfl, om3, b⟩
          try clear c_g1 f_g1 a_g1 d_g1 e_g1
          replace g1 := g1.below b; have c_g1 := g1.cell; have f_g1 := g1.free; have a_g1 := fun o => (g1.alloc o).cell; have d_g1 := fun o o2 => ((g1.alloc o).alloc o2).cell; have e_g1 := fun o => (g1.alloc o).free; try clear c_g2 f_g2 a_g2 d_g2 e_g2
          replace g2 := g2.below b; have c_g2 := g2.cell; have f_g2 := g2.free; have a_g2 := fun o => (g2.alloc o).cell; have d_g2 := fun o o2 => ((g2.alloc o).alloc o2).cell; have e_g2 := fun o => (g2.alloc o).free; replace om := om.below b; try clear c_g3 f_g3 a_g3 d_g3 e_g3
          replace g3 := g3.below b; have c_g3 := g3.cell; have f_g3 := g3.free; have a_g3 := fun o => (g3.alloc o).cell; have d_g3 := fun o o2 => ((g3.alloc o).alloc o2).cell; have e_g3 := fun o => (g3.alloc o).free; try clear c_g5 f_g5 a_g5 d_g5 e_g5
          replace g5 := g5.below b; have c_g5 := g5.cell; have f_g5 := g5.free; have a_g5 := fun o => (g5.alloc o).cell; have d_g5 := fun o o2 => ((g5.alloc o).alloc o2).cell; have e_g5 := fun o => (g5.alloc o).free; replace o2 := o2.below b; replace B := B.trans (b.mono B.size); clear b
          obtain ⟨⟨u3A, u3n, u3c, rfl⟩, ⟨p3A, p3n, p3c, rfl⟩, ⟨q3A, q3n, q3c, rfl⟩⟩ := om3.rd.forms2
          go_upto_region 15 with (fail)
          refine wp_gen (fun Wv => Bx Wv wa9.heap.size 87 #[.slice u3A u3n u3c, .slice p3A p3n p3c, .slice q3A q3n q3c] ∧ OwnM Wv wa11.heap.size 55 (.slice u3A u3n u3c) (.slice p3A p3n p3c) (.slice q3A q3n q3c) M3 ∧ OwnE Wv wa10.heap.size y2 E3 ∧ OwnM Wv wa3.heap.size 116 (.slice tA tn tc) (.slice oA on oc) (.slice sA sn sc) m ∧ Bx Wv w.heap.size 24 #[.int .i64 a0, .int .i64 b0] ∧ Bx Wv (w.heap.size + 1) 24 #[.int .i64 a1, .int .i64 b1] ∧ Bx Wv wa4.heap.size 87 #[.slice tA tn tc, .slice oA on oc, .slice sA sn sc] ∧ Below w.heap.size w Wv) ⟨g5.put3 _ _ _, OwnM.set3 om3 g5, own_set3 o2 g5 (by decide) _ _ _, OwnM.set3E om g5 (by decide), g1.far3 (g1.ne g5 (by decide)) _ _ _, g2.far3 (g2.ne g5 (by decide)) _ _ _, g3.far3 (by omega) _ _ _, below_set3 B hlt0 _ _ _⟩ ?_
          clear c_g1 f_g1 a_g1 d_g1 e_g1 c_g2 f_g2 a_g2 d_g2 e_g2 c_g3 f_g3 a_g3 d_g3 e_g3 c_g5 f_g5 a_g5 d_g5 e_g5 g1 g2 g3 g5 om om3 o2 B
          rintro wb15 ⟨g5, om3, o2, om, g1, g2, g3, B⟩
          have c_g1 := g1.cell; have f_g1 := g1.free; have a_g1 := fun o => (g1.alloc o).cell; have d_g1 := fun o o2 => ((g1.alloc o).alloc o2).cell; have e_g1 := fun o => (g1.alloc o).free
          have c_g2 := g2.cell; have f_g2 := g2.free; have a_g2 := fun o => (g2.alloc o).cell; have d_g2 := fun o o2 => ((g2.alloc o).alloc o2).cell; have e_g2 := fun o => (g2.alloc o).free
          have c_g3 := g3.cell; have f_g3 := g3.free; have a_g3 := fun o => (g3.alloc o).cell; have d_g3 := fun o o2 => ((g3.alloc o).alloc o2).cell; have e_g3 := fun o => (g3.alloc o).free
          have c_g5 := g5.cell; have f_g5 := g5.free; have a_g5 := fun o => (g5.alloc o).cell; have d_g5 := fun o o2 => ((g5.alloc o).alloc o2).cell; have e_g5 := fun o => (g5.alloc o).free
          go_wp2_with fail
          refine (BT3.out _ _ _ _ _ (H.out.below B) o2.rd om3.rd).mono ?_
          rintro e wa13 ⟨rfl, b⟩
          try clear c_g1 f_g1 a_g1 d_g1 e_g1
          replace g1 := g1.below b; have c_g1 := g1.cell; have f_g1 := g1.free; have a_g1 := fun o => (g1.alloc o).cell; have d_g1 := fun o o2 => ((g1.alloc o).alloc o2).cell; have e_g1 := fun o => (g1.alloc o).free; try clear c_g2 f_g2 a_g2 d_g2 e_g2
          replace g2 := g2.below b; have c_g2 := g2.cell; have f_g2 := g2.free; have a_g2 := fun o => (g2.alloc o).cell; have d_g2 := fun o o2 => ((g2.alloc o).alloc o2).cell; have e_g2 := fun o => (g2.alloc o).free; try clear c_g3 f_g3 a_g3 d_g3 e_g3
          replace g3 := g3.below b; have c_g3 := g3.cell; have f_g3 := g3.free; have a_g3 := fun o => (g3.alloc o).cell; have d_g3 := fun o o2 => ((g3.alloc o).alloc o2).cell; have e_g3 := fun o => (g3.alloc o).free; try clear c_g5 f_g5 a_g5 d_g5 e_g5
          replace g5 := g5.below b; have c_g5 := g5.cell; have f_g5 := g5.free; have a_g5 := fun o => (g5.alloc o).cell; have d_g5 := fun o o2 => ((g5.alloc o).alloc o2).cell; have e_g5 := fun o => (g5.alloc o).free; replace om := om.below b; replace om3 := om3.below b; replace o2 := o2.below b; replace B := B.trans (b.mono B.size); clear b
          clear o2 om3
          go_wp2_with fail
          refine (NA.out _ _ (H.out.below B) rfl).mono ?_
          rintro e wa14 ⟨y5, rfl, o5, b⟩
          try clear c_g1 f_g1 a_g1 d_g1 e_g1
          replace g1 := g1.below b; have c_g1 := g1.cell; have f_g1 := g1.free; have a_g1 := fun o => (g1.alloc o).cell; have d_g1 := fun o o2 => ((g1.alloc o).alloc o2).cell; have e_g1 := fun o => (g1.alloc o).free; try clear c_g2 f_g2 a_g2 d_g2 e_g2
          replace g2 := g2.below b; have c_g2 := g2.cell; have f_g2 := g2.free; have a_g2 := fun o => (g2.alloc o).cell; have d_g2 := fun o o2 => ((g2.alloc o).alloc o2).cell; have e_g2 := fun o => (g2.alloc o).free; try clear c_g3 f_g3 a_g3 d_g3 e_g3
          replace g3 := g3.below b; have c_g3 := g3.cell; have f_g3 := g3.free; have a_g3 := fun o => (g3.alloc o).cell; have d_g3 := fun o o2 => ((g3.alloc o).alloc o2).cell; have e_g3 := fun o => (g3.alloc o).free; try clear c_g5 f_g5 a_g5 d_g5 e_g5
          replace g5 := g5.below b; have c_g5 := g5.cell; have f_g5 := g5.free; have a_g5 := fun o => (g5.alloc o).cell; have d_g5 := fun o o2 => ((g5.alloc o).alloc o2).cell; have e_g5 := fun o => (g5.alloc o).free; replace om := om.below b; replace B := B.trans (b.mono B.size); clear b
          go_wp2_with fail
          refine (NM.out _ _ _ _ _ om.rd rfl).mono ?_
          rintro e wa15 ⟨tb5, ob5, sb5, rfl, om5, b⟩
          try clear c_g1 f_g1 a_g1 d_g1 e_g1
          replace g1 := g1.below b; have c_g1 := g1.cell; have f_g1 := g1.free; have a_g1 := fun o => (g1.alloc o).cell; have d_g1 := fun o o2 => ((g1.alloc o).alloc o2).cell; have e_g1 := fun o => (g1.alloc o).free; try clear c_g2 f_g2 a_g2 d_g2 e_g2
          replace g2 := g2.below b; have c_g2 := g2.cell; have f_g2 := g2.free; have a_g2 := fun o => (g2.alloc o).cell; have d_g2 := fun o o2 => ((g2.alloc o).alloc o2).cell; have e_g2 := fun o => (g2.alloc o).free; try clear c_g3 f_g3 a_g3 d_g3 e_g3
          replace g3 := g3.below b; have c_g3 := g3.cell; have f_g3 := g3.free; have a_g3 := fun o => (g3.alloc o).cell; have d_g3 := fun o o2 => ((g3.alloc o).alloc o2).cell; have e_g3 := fun o => (g3.alloc o).free; try clear c_g5 f_g5 a_g5 d_g5 e_g5
          replace g5 := g5.below b; have c_g5 := g5.cell; have f_g5 := g5.free; have a_g5 := fun o => (g5.alloc o).cell; have d_g5 := fun o o2 => ((g5.alloc o).alloc o2).cell; have e_g5 := fun o => (g5.alloc o).free; replace om := om.below b; replace o5 := o5.below b; replace B := B.trans (b.mono B.size); clear b
          obtain ⟨⟨u5A, u5n, u5c, rfl⟩, ⟨p5A, p5n, p5c, rfl⟩, ⟨q5A, q5n, q5c, rfl⟩⟩ := om5.rd.forms2
          go_upto_region 19 with (fail)
          refine wp_gen (fun Wv => Bx Wv wa9.heap.size 87 #[.slice u5A u5n u5c, .slice p5A p5n p5c, .slice q5A q5n q5c] ∧ OwnM Wv wa14.heap.size 55 (.slice u5A u5n u5c) (.slice p5A p5n p5c) (.slice q5A q5n q5c) M5 ∧ OwnE Wv wa13.heap.size y5 E5 ∧ OwnM Wv wa3.heap.size 116 (.slice tA tn tc) (.slice oA on oc) (.slice sA sn sc) m ∧ Bx Wv w.heap.size 24 #[.int .i64 a0, .int .i64 b0] ∧ Bx Wv (w.heap.size + 1) 24 #[.int .i64 a1, .int .i64 b1] ∧ Bx Wv wa4.heap.size 87 #[.slice tA tn tc, .slice oA on oc, .slice sA sn sc] ∧ Below w.heap.size w Wv) ⟨g5.put3 _ _ _, OwnM.set3 om5 g5, own_set3 o5 g5 (by decide) _ _ _, OwnM.set3E om g5 (by decide), g1.far3 (g1.ne g5 (by decide)) _ _ _, g2.far3 (g2.ne g5 (by decide)) _ _ _, g3.far3 (by omega) _ _ _, below_set3 B hlt0 _ _ _⟩ ?_
          clear c_g1 f_g1 a_g1 d_g1 e_g1 c_g2 f_g2 a_g2 d_g2 e_g2 c_g3 f_g3 a_g3 d_g3 e_g3 c_g5 f_g5 a_g5 d_g5 e_g5 g1 g2 g3 g5 om om5 o5 B
          rintro wb19 ⟨g5, om5, o5, om, g1, g2, g3, B⟩
          have c_g1 := g1.cell; have f_g1 := g1.free; have a_g1 := fun o => (g1.alloc o).cell; have d_g1 := fun o o2 => ((g1.alloc o).alloc o2).cell; have e_g1 := fun o => (g1.alloc o).free
          have c_g2 := g2.cell; have f_g2 := g2.free; have a_g2 := fun o => (g2.alloc o).cell; have d_g2 := fun o o2 => ((g2.alloc o).alloc o2).cell; have e_g2 := fun o => (g2.alloc o).free
          have c_g3 := g3.cell; have f_g3 := g3.free; have a_g3 := fun o => (g3.alloc o).cell; have d_g3 := fun o o2 => ((g3.alloc o).alloc o2).cell; have e_g3 := fun o => (g3.alloc o).free
          have c_g5 := g5.cell; have f_g5 := g5.free; have a_g5 := fun o => (g5.alloc o).cell; have d_g5 := fun o o2 => ((g5.alloc o).alloc o2).cell; have e_g5 := fun o => (g5.alloc o).free
          go_wp2_with fail
          refine (BT5.out _ _ _ _ _ (H.out.below B) o5.rd om5.rd).mono ?_
          rintro e wa16 ⟨rfl, b⟩
          try clear c_g1 f_g1 a_g1 d_g1 e_g1
          replace g1 := g1.below b; have c_g1 := g1.cell; have f_g1 := g1.free; have a_g1 := fun o => (g1.alloc o).cell; have d_g1 := fun o o2 => ((g1.alloc o).alloc o2).cell; have e_g1 := fun o => (g1.alloc o).free; try clear c_g2 f_g2 a_g2 d_g2 e_g2
          replace g2 := g2.below b; have c_g2 := g2.cell; have f_g2 := g2.free; have a_g2 := fun o => (g2.alloc o).cell; have d_g2 := fun o o2 => ((g2.alloc o).alloc o2).cell; have e_g2 := fun o => (g2.alloc o).free; try clear c_g3 f_g3 a_g3 d_g3 e_g3
          replace g3 := g3.below b; have c_g3 := g3.cell; have f_g3 := g3.free; have a_g3 := fun o => (g3.alloc o).cell; have d_g3 := fun o o2 => ((g3.alloc o).alloc o2).cell; have e_g3 := fun o => (g3.alloc o).free; try clear c_g5 f_g5 a_g5 d_g5 e_g5
          replace g5 := g5.below b; have c_g5 := g5.cell; have f_g5 := g5.free; have a_g5 := fun o => (g5.alloc o).cell; have d_g5 := fun o o2 => ((g5.alloc o).alloc o2).cell; have e_g5 := fun o => (g5.alloc o).free; replace om := om.below b; replace om5 := om5.below b; replace o5 := o5.below b; replace B := B.trans (b.mono B.size); clear b
          clear o5 om5
          go_wp2_with fail
          refine (OA.out _ (H.out.below B)).mono ?_
          rintro e wa17 ⟨y4, rfl, o4, b⟩
          try clear c_g1 f_g1 a_g1 d_g1 e_g1
          replace g1 := g1.below b; have c_g1 := g1.cell; have f_g1 := g1.free; have a_g1 := fun o => (g1.alloc o).cell; have d_g1 := fun o o2 => ((g1.alloc o).alloc o2).cell; have e_g1 := fun o => (g1.alloc o).free; try clear c_g2 f_g2 a_g2 d_g2 e_g2
          replace g2 := g2.below b; have c_g2 := g2.cell; have f_g2 := g2.free; have a_g2 := fun o => (g2.alloc o).cell; have d_g2 := fun o o2 => ((g2.alloc o).alloc o2).cell; have e_g2 := fun o => (g2.alloc o).free; try clear c_g3 f_g3 a_g3 d_g3 e_g3
          replace g3 := g3.below b; have c_g3 := g3.cell; have f_g3 := g3.free; have a_g3 := fun o => (g3.alloc o).cell; have d_g3 := fun o o2 => ((g3.alloc o).alloc o2).cell; have e_g3 := fun o => (g3.alloc o).free; try clear c_g5 f_g5 a_g5 d_g5 e_g5
          replace g5 := g5.below b; have c_g5 := g5.cell; have f_g5 := g5.free; have a_g5 := fun o => (g5.alloc o).cell; have d_g5 := fun o o2 => ((g5.alloc o).alloc o2).cell; have e_g5 := fun o => (g5.alloc o).free; replace om := om.below b; replace B := B.trans (b.mono B.size); clear b
          go_upto_region 22 with (fail)
          refine wp_gen (fun Wv => Bx Wv (wa17.heap.size) (24) (#[.int .i64 s4, .int .i64 g4]) ∧ Below wa17.heap.size wa17 Wv) ⟨((Bx.at_ (by simp))), ((Below.refl _ wa17).alloc (by simp <;> omega) _)⟩ ?_
          rintro wa18 ⟨g6, b⟩
          try clear c_g1 f_g1 a_g1 d_g1 e_g1
          replace g1 := g1.below b; have c_g1 := g1.cell; have f_g1 := g1.free; have a_g1 := fun o => (g1.alloc o).cell; have d_g1 := fun o o2 => ((g1.alloc o).alloc o2).cell; have e_g1 := fun o => (g1.alloc o).free; try clear c_g2 f_g2 a_g2 d_g2 e_g2
          replace g2 := g2.below b; have c_g2 := g2.cell; have f_g2 := g2.free; have a_g2 := fun o => (g2.alloc o).cell; have d_g2 := fun o o2 => ((g2.alloc o).alloc o2).cell; have e_g2 := fun o => (g2.alloc o).free; try clear c_g3 f_g3 a_g3 d_g3 e_g3
          replace g3 := g3.below b; have c_g3 := g3.cell; have f_g3 := g3.free; have a_g3 := fun o => (g3.alloc o).cell; have d_g3 := fun o o2 => ((g3.alloc o).alloc o2).cell; have e_g3 := fun o => (g3.alloc o).free; try clear c_g5 f_g5 a_g5 d_g5 e_g5
          replace g5 := g5.below b; have c_g5 := g5.cell; have f_g5 := g5.free; have a_g5 := fun o => (g5.alloc o).cell; have d_g5 := fun o o2 => ((g5.alloc o).alloc o2).cell; have e_g5 := fun o => (g5.alloc o).free; replace om := om.below b; replace o4 := o4.below b; replace B := B.trans (b.mono B.size); clear b
          have c_g6 := g6.cell; have f_g6 := g6.free; have a_g6 := fun o => (g6.alloc o).cell; have d_g6 := fun o o2 => ((g6.alloc o).alloc o2).cell; have e_g6 := fun o => (g6.alloc o).free
          go_wp2_with fail
          refine (OMo.out _ _ _ _ om.rd).mono ?_
          rintro e wa19 ⟨tb4, ob4, sb4, rfl, om4, b⟩
          try clear c_g1 f_g1 a_g1 d_g1 e_g1
          replace g1 := g1.below b; have c_g1 := g1.cell; have f_g1 := g1.free; have a_g1 := fun o => (g1.alloc o).cell; have d_g1 := fun o o2 => ((g1.alloc o).alloc o2).cell; have e_g1 := fun o => (g1.alloc o).free; try clear c_g2 f_g2 a_g2 d_g2 e_g2
          replace g2 := g2.below b; have c_g2 := g2.cell; have f_g2 := g2.free; have a_g2 := fun o => (g2.alloc o).cell; have d_g2 := fun o o2 => ((g2.alloc o).alloc o2).cell; have e_g2 := fun o => (g2.alloc o).free; try clear c_g3 f_g3 a_g3 d_g3 e_g3
          replace g3 := g3.below b; have c_g3 := g3.cell; have f_g3 := g3.free; have a_g3 := fun o => (g3.alloc o).cell; have d_g3 := fun o o2 => ((g3.alloc o).alloc o2).cell; have e_g3 := fun o => (g3.alloc o).free; try clear c_g5 f_g5 a_g5 d_g5 e_g5
          replace g5 := g5.below b; have c_g5 := g5.cell; have f_g5 := g5.free; have a_g5 := fun o => (g5.alloc o).cell; have d_g5 := fun o o2 => ((g5.alloc o).alloc o2).cell; have e_g5 := fun o => (g5.alloc o).free; replace om := om.below b; replace o4 := o4.below b; try clear c_g6 f_g6 a_g6 d_g6 e_g6
          replace g6 := g6.below b; have c_g6 := g6.cell; have f_g6 := g6.free; have a_g6 := fun o => (g6.alloc o).cell; have d_g6 := fun o o2 => ((g6.alloc o).alloc o2).cell; have e_g6 := fun o => (g6.alloc o).free; replace B := B.trans (b.mono B.size); clear b
          obtain ⟨⟨u4A, u4n, u4c, rfl⟩, ⟨p4A, p4n, p4c, rfl⟩, ⟨q4A, q4n, q4c, rfl⟩⟩ := om4.rd.forms2
          have hlt5 := g5.lt
          have hn1 : wa19.heap.size ≠ wa9.heap.size := by omega
          have hn2 : wa9.heap.size ≠ wa19.heap.size := by omega
          go_upto_region 23 with (fail)
          refine wp_gen (fun Wv => Bx Wv wa9.heap.size 87 #[.slice u4A u4n u4c, .slice p4A p4n p4c, .slice q4A q4n q4c] ∧ Bx Wv wa17.heap.size 24 #[.int .i64 s4, .int .i64 g4] ∧ Bx Wv wa19.heap.size 24 #[.int .i64 s4, .int .i64 g4] ∧ OwnM Wv wa18.heap.size 55 (.slice u4A u4n u4c) (.slice p4A p4n p4c) (.slice q4A q4n q4c) M4 ∧ Ents Wv y4 E4 ∧ Below w.heap.size w Wv) ?_ ?_
          · have z5 := g5.put3 (.slice u4A u4n u4c) (.slice p4A p4n p4c) (.slice q4A q4n q4c)
            have z6 := g6.far3 (g6.ne g5 (by decide)) (.slice u4A u4n u4c) (.slice p4A p4n p4c) (.slice q4A q4n q4c)
            have zm := OwnM.set3 (a := .slice u4A u4n u4c) (b := .slice p4A p4n p4c) (c := .slice q4A q4n q4c) om4 g5
            have ze := own_set3 o4 g5 (by decide) (.slice u4A u4n u4c) (.slice p4A p4n p4c) (.slice q4A q4n q4c)
            have zb := below_set3 B hlt0 (.slice u4A u4n u4c) (.slice p4A p4n p4c) (.slice q4A q4n q4c)
            generalize hW3 : (((wa19.setCell ⟨wa9.heap.size, 0, none⟩ (.slice u4A u4n u4c)).setCell ⟨wa9.heap.size, 1, none⟩ (.slice p4A p4n p4c)).setCell ⟨wa9.heap.size, 2, none⟩ (.slice q4A q4n q4c)) = W3 at *
            have hsz : W3.heap.size = wa19.heap.size := by rw [← hW3]; simp [World.setCell]
            have hal : Below W3.heap.size W3 (W3.alloc (.cells #[.int .i64 s4, .int .i64 g4] 24)) := (Below.refl _ _).alloc (Nat.le_refl _) _
            refine ⟨z5.below hal, z6.below hal, ?_, zm.below hal, (OwnE.below ze hal).rd, zb.trans (hal.mono zb.size)⟩
            rw [← hsz]; exact Bx.new _ _ _
          clear c_g1 f_g1 a_g1 d_g1 e_g1 c_g2 f_g2 a_g2 d_g2 e_g2 c_g3 f_g3 a_g3 d_g3 e_g3 c_g5 f_g5 a_g5 d_g5 e_g5 c_g6 f_g6 a_g6 d_g6 e_g6 g1 g2 g3 g5 g6 om om4 o4 B
          rintro wz ⟨g5, g6, g7, om4, q4, B⟩
          have c_g5 := g5.cell; have c_g6 := g6.cell; have c_g7 := g7.cell
          go_wp2
          go_ret
          exact ⟨rfl, B⟩
        · have n3 := nz _ c3
          have BT4 := Lib.hid (HB4.out c4)
          subst c4
          clear c1 c3 HB1 HBA HBN HB4 nz nb
          go_enter Try.func12, Try.ntmps12
          go_upto_region 1 with (fail)
          refine wp_gen (fun Wv => Bx Wv (w.heap.size) (24) (#[.int .i64 a0, .int .i64 b0]) ∧ Bx Wv (w.heap.size + 1) (24) (#[.int .i64 a1, .int .i64 b1]) ∧ Below w.heap.size w Wv) ⟨(((Bx.at_ (by simp)).alloc _)), ((Bx.at_ (by simp))), (((Below.refl _ w).alloc (by simp <;> omega) _).alloc (by simp <;> omega) _)⟩ ?_
          rintro wa1 ⟨g1, g2, b⟩
          replace B := B.trans (b.mono B.size); clear b
          have c_g1 := g1.cell; have f_g1 := g1.free; have a_g1 := fun o => (g1.alloc o).cell; have d_g1 := fun o o2 => ((g1.alloc o).alloc o2).cell; have e_g1 := fun o => (g1.alloc o).free
          have c_g2 := g2.cell; have f_g2 := g2.free; have a_g2 := fun o => (g2.alloc o).cell; have d_g2 := fun o o2 => ((g2.alloc o).alloc o2).cell; have e_g2 := fun o => (g2.alloc o).free
          go_wp2_with fail
          refine (AL.out _).mono ?_
          rintro e wa2 ⟨rfl, b⟩
          try clear c_g1 f_g1 a_g1 d_g1 e_g1
          replace g1 := g1.below b; have c_g1 := g1.cell; have f_g1 := g1.free; have a_g1 := fun o => (g1.alloc o).cell; have d_g1 := fun o o2 => ((g1.alloc o).alloc o2).cell; have e_g1 := fun o => (g1.alloc o).free; try clear c_g2 f_g2 a_g2 d_g2 e_g2
          replace g2 := g2.below b; have c_g2 := g2.cell; have f_g2 := g2.free; have a_g2 := fun o => (g2.alloc o).cell; have d_g2 := fun o o2 => ((g2.alloc o).alloc o2).cell; have e_g2 := fun o => (g2.alloc o).free; replace B := B.trans (b.mono B.size); clear b
          go_wp2_with fail
          refine (G.out _ (H.out.below B)).mono ?_
          rintro e w2 ⟨rfl, rfl⟩
          go_wp2_with fail
          refine (CK.out _ (H.out.below B)).mono ?_
          rintro e wa3 ⟨rfl, b⟩
          try clear c_g1 f_g1 a_g1 d_g1 e_g1
          replace g1 := g1.below b; have c_g1 := g1.cell; have f_g1 := g1.free; have a_g1 := fun o => (g1.alloc o).cell; have d_g1 := fun o o2 => ((g1.alloc o).alloc o2).cell; have e_g1 := fun o => (g1.alloc o).free; try clear c_g2 f_g2 a_g2 d_g2 e_g2
          replace g2 := g2.below b; have c_g2 := g2.cell; have f_g2 := g2.free; have a_g2 := fun o => (g2.alloc o).cell; have d_g2 := fun o o2 => ((g2.alloc o).alloc o2).cell; have e_g2 := fun o => (g2.alloc o).free; replace B := B.trans (b.mono B.size); clear b
          go_wp2_with fail
          refine (OM.out _ (H.out.below B)).mono ?_
          rintro e wa4 ⟨ta, oa, sa, rfl, om, b⟩
          try clear c_g1 f_g1 a_g1 d_g1 e_g1
          replace g1 := g1.below b; have c_g1 := g1.cell; have f_g1 := g1.free; have a_g1 := fun o => (g1.alloc o).cell; have d_g1 := fun o o2 => ((g1.alloc o).alloc o2).cell; have e_g1 := fun o => (g1.alloc o).free; try clear c_g2 f_g2 a_g2 d_g2 e_g2
          replace g2 := g2.below b; have c_g2 := g2.cell; have f_g2 := g2.free; have a_g2 := fun o => (g2.alloc o).cell; have d_g2 := fun o o2 => ((g2.alloc o).alloc o2).cell; have e_g2 := fun o => (g2.alloc o).free; replace B := B.trans (b.mono B.size); clear b
          obtain ⟨⟨tA, tn, tc, rfl⟩, ⟨oA, on, oc, rfl⟩, ⟨sA, sn, sc, rfl⟩⟩ := om.rd.forms2
          go_upto_region 5 with (fail)
          refine wp_gen (fun Wv => Bx Wv (wa4.heap.size) (87) (#[.slice tA tn tc, .slice oA on oc, .slice sA sn sc]) ∧ Below wa4.heap.size wa4 Wv) ⟨((Bx.at_ (by simp))), ((Below.refl _ wa4).alloc (by simp <;> omega) _)⟩ ?_
          rintro wa5 ⟨g3, b⟩
          try clear c_g1 f_g1 a_g1 d_g1 e_g1
          replace g1 := g1.below b; have c_g1 := g1.cell; have f_g1 := g1.free; have a_g1 := fun o => (g1.alloc o).cell; have d_g1 := fun o o2 => ((g1.alloc o).alloc o2).cell; have e_g1 := fun o => (g1.alloc o).free; try clear c_g2 f_g2 a_g2 d_g2 e_g2
          replace g2 := g2.below b; have c_g2 := g2.cell; have f_g2 := g2.free; have a_g2 := fun o => (g2.alloc o).cell; have d_g2 := fun o o2 => ((g2.alloc o).alloc o2).cell; have e_g2 := fun o => (g2.alloc o).free; replace om := om.below b; replace B := B.trans (b.mono B.size); clear b
          have c_g3 := g3.cell; have f_g3 := g3.free; have a_g3 := fun o => (g3.alloc o).cell; have d_g3 := fun o o2 => ((g3.alloc o).alloc o2).cell; have e_g3 := fun o => (g3.alloc o).free
          go_wp2_with fail
          refine (GA.out _ (H.out.below B)).mono ?_
          rintro e wa6 ⟨rfl, b⟩
          try clear c_g1 f_g1 a_g1 d_g1 e_g1
          replace g1 := g1.below b; have c_g1 := g1.cell; have f_g1 := g1.free; have a_g1 := fun o => (g1.alloc o).cell; have d_g1 := fun o o2 => ((g1.alloc o).alloc o2).cell; have e_g1 := fun o => (g1.alloc o).free; try clear c_g2 f_g2 a_g2 d_g2 e_g2
          replace g2 := g2.below b; have c_g2 := g2.cell; have f_g2 := g2.free; have a_g2 := fun o => (g2.alloc o).cell; have d_g2 := fun o o2 => ((g2.alloc o).alloc o2).cell; have e_g2 := fun o => (g2.alloc o).free; replace om := om.below b; try clear c_g3 f_g3 a_g3 d_g3 e_g3
          replace g3 := g3.below b; have c_g3 := g3.cell; have f_g3 := g3.free; have a_g3 := fun o => (g3.alloc o).cell; have d_g3 := fun o o2 => ((g3.alloc o).alloc o2).cell; have e_g3 := fun o => (g3.alloc o).free; replace B := B.trans (b.mono B.size); clear b
          go_wp2_with fail
          refine (GM.out _ _ _ _ om.rd).mono ?_
          rintro e wa7 ⟨rfl, b⟩
          try clear c_g1 f_g1 a_g1 d_g1 e_g1
          replace g1 := g1.below b; have c_g1 := g1.cell; have f_g1 := g1.free; have a_g1 := fun o => (g1.alloc o).cell; have d_g1 := fun o o2 => ((g1.alloc o).alloc o2).cell; have e_g1 := fun o => (g1.alloc o).free; try clear c_g2 f_g2 a_g2 d_g2 e_g2
          replace g2 := g2.below b; have c_g2 := g2.cell; have f_g2 := g2.free; have a_g2 := fun o => (g2.alloc o).cell; have d_g2 := fun o o2 => ((g2.alloc o).alloc o2).cell; have e_g2 := fun o => (g2.alloc o).free; replace om := om.below b; try clear c_g3 f_g3 a_g3 d_g3 e_g3
          replace g3 := g3.below b; have c_g3 := g3.cell; have f_g3 := g3.free; have a_g3 := fun o => (g3.alloc o).cell; have d_g3 := fun o o2 => ((g3.alloc o).alloc o2).cell; have e_g3 := fun o => (g3.alloc o).free; replace B := B.trans (b.mono B.size); clear b
          go_wp2_with fail
          refine (SA.out _ (H.out.below B)).mono ?_
          rintro e wa8 ⟨y1, rfl, o1, b⟩
          try clear c_g1 f_g1 a_g1 d_g1 e_g1
          replace g1 := g1.below b; have c_g1 := g1.cell; have f_g1 := g1.free; have a_g1 := fun o => (g1.alloc o).cell; have d_g1 := fun o o2 => ((g1.alloc o).alloc o2).cell; have e_g1 := fun o => (g1.alloc o).free; try clear c_g2 f_g2 a_g2 d_g2 e_g2
          replace g2 := g2.below b; have c_g2 := g2.cell; have f_g2 := g2.free; have a_g2 := fun o => (g2.alloc o).cell; have d_g2 := fun o o2 => ((g2.alloc o).alloc o2).cell; have e_g2 := fun o => (g2.alloc o).free; replace om := om.below b; try clear c_g3 f_g3 a_g3 d_g3 e_g3
          replace g3 := g3.below b; have c_g3 := g3.cell; have f_g3 := g3.free; have a_g3 := fun o => (g3.alloc o).cell; have d_g3 := fun o o2 => ((g3.alloc o).alloc o2).cell; have e_g3 := fun o => (g3.alloc o).free; replace B := B.trans (b.mono B.size); clear b
          go_wp2_with fail
          refine (SMo.out _ _ _ _ om.rd).mono ?_
          rintro e wa9 ⟨tb, ob, sb, rfl, om2, b⟩
          try clear c_g1 f_g1 a_g1 d_g1 e_g1
          replace g1 := g1.below b; have c_g1 := g1.cell; have f_g1 := g1.free; have a_g1 := fun o => (g1.alloc o).cell; have d_g1 := fun o o2 => ((g1.alloc o).alloc o2).cell; have e_g1 := fun o => (g1.alloc o).free; try clear c_g2 f_g2 a_g2 d_g2 e_g2
          replace g2 := g2.below b; have c_g2 := g2.cell; have f_g2 := g2.free; have a_g2 := fun o => (g2.alloc o).cell; have d_g2 := fun o o2 => ((g2.alloc o).alloc o2).cell; have e_g2 := fun o => (g2.alloc o).free; replace om := om.below b; try clear c_g3 f_g3 a_g3 d_g3 e_g3
          replace g3 := g3.below b; have c_g3 := g3.cell; have f_g3 := g3.free; have a_g3 := fun o => (g3.alloc o).cell; have d_g3 := fun o o2 => ((g3.alloc o).alloc o2).cell; have e_g3 := fun o => (g3.alloc o).free; replace o1 := o1.below b; replace B := B.trans (b.mono B.size); clear b
          obtain ⟨⟨uA, un, uc, rfl⟩, ⟨pA, pn, pc, rfl⟩, ⟨qA, qn, qc, rfl⟩⟩ := om2.rd.forms2
          go_upto_region 11 with (fail)
          have hlt3 := g3.lt
          have hlt0 := B.size
          refine wp_gen (fun Wv => Bx Wv (wa9.heap.size) (87) (#[.slice uA un uc, .slice pA pn pc, .slice qA qn qc]) ∧ Below wa9.heap.size wa9 Wv) ⟨((Bx.at_ (by simp))), ((Below.refl _ wa9).alloc (by simp <;> omega) _)⟩ ?_
          rintro wa10 ⟨g5, b⟩
          try clear c_g1 f_g1 a_g1 d_g1 e_g1
          replace g1 := g1.below b; have c_g1 := g1.cell; have f_g1 := g1.free; have a_g1 := fun o => (g1.alloc o).cell; have d_g1 := fun o o2 => ((g1.alloc o).alloc o2).cell; have e_g1 := fun o => (g1.alloc o).free; try clear c_g2 f_g2 a_g2 d_g2 e_g2
          replace g2 := g2.below b; have c_g2 := g2.cell; have f_g2 := g2.free; have a_g2 := fun o => (g2.alloc o).cell; have d_g2 := fun o o2 => ((g2.alloc o).alloc o2).cell; have e_g2 := fun o => (g2.alloc o).free; replace om := om.below b; try clear c_g3 f_g3 a_g3 d_g3 e_g3
          replace g3 := g3.below b; have c_g3 := g3.cell; have f_g3 := g3.free; have a_g3 := fun o => (g3.alloc o).cell; have d_g3 := fun o o2 => ((g3.alloc o).alloc o2).cell; have e_g3 := fun o => (g3.alloc o).free; replace o1 := o1.below b; replace om2 := om2.below b; replace B := B.trans (b.mono B.size); clear b
          have c_g5 := g5.cell; have f_g5 := g5.free; have a_g5 := fun o => (g5.alloc o).cell; have d_g5 := fun o o2 => ((g5.alloc o).alloc o2).cell; have e_g5 := fun o => (g5.alloc o).free
          clear o1 om2
          go_wp2_with fail
          refine (RA.out _ _ (H.out.below B) ⟨_, rfl, g2⟩).mono ?_
          rintro e wa11 ⟨y2, rfl, o2, b⟩
          try clear c_g1 f_g1 a_g1 d_g1 e_g1
          replace g1 := g1.below b; have c_g1 := g1.cell; have f_g1 := g1.free; have a_g1 := fun o => (g1.alloc o).cell; have d_g1 := fun o o2 => ((g1.alloc o).alloc o2).cell; have e_g1 := fun o => (g1.alloc o).free; try clear c_g2 f_g2 a_g2 d_g2 e_g2
          replace g2 := g2.below b; have c_g2 := g2.cell; have f_g2 := g2.free; have a_g2 := fun o => (g2.alloc o).cell; have d_g2 := fun o o2 => ((g2.alloc o).alloc o2).cell; have e_g2 := fun o => (g2.alloc o).free; replace om := om.below b; try clear c_g3 f_g3 a_g3 d_g3 e_g3
          replace g3 := g3.below b; have c_g3 := g3.cell; have f_g3 := g3.free; have a_g3 := fun o => (g3.alloc o).cell; have d_g3 := fun o o2 => ((g3.alloc o).alloc o2).cell; have e_g3 := fun o => (g3.alloc o).free; try clear c_g5 f_g5 a_g5 d_g5 e_g5
          replace g5 := g5.below b; have c_g5 := g5.cell; have f_g5 := g5.free; have a_g5 := fun o => (g5.alloc o).cell; have d_g5 := fun o o2 => ((g5.alloc o).alloc o2).cell; have e_g5 := fun o => (g5.alloc o).free; replace B := B.trans (b.mono B.size); clear b
          go_wp2_with fail
          refine (RM.out _ _ _ _ _ om.rd ⟨_, rfl, g2⟩).mono ?_
          rintro e wa12 ⟨tb3, ob3, sb3, rfl, om3, b⟩
          try clear c_g1 f_g1 a_g1 d_g1 e_g1
          replace g1 := g1.below b; have c_g1 := g1.cell; have f_g1 := g1.free; have a_g1 := fun o => (g1.alloc o).cell; have d_g1 := fun o o2 => ((g1.alloc o).alloc o2).cell; have e_g1 := fun o => (g1.alloc o).free; try clear c_g2 f_g2 a_g2 d_g2 e_g2
          replace g2 := g2.below b; have c_g2 := g2.cell; have f_g2 := g2.free; have a_g2 := fun o => (g2.alloc o).cell; have d_g2 := fun o o2 => ((g2.alloc o).alloc o2).cell; have e_g2 := fun o => (g2.alloc o).free; replace om := om.below b; try clear c_g3 f_g3 a_g3 d_g3 e_g3
          replace g3 := g3.below b; have c_g3 := g3.cell; have f_g3 := g3.free; have a_g3 := fun o => (g3.alloc o).cell; have d_g3 := fun o o2 => ((g3.alloc o).alloc o2).cell; have e_g3 := fun o => (g3.alloc o).free; try clear c_g5 f_g5 a_g5 d_g5 e_g5
          replace g5 := g5.below b; have c_g5 := g5.cell; have f_g5 := g5.free; have a_g5 := fun o => (g5.alloc o).cell; have d_g5 := fun o o2 => ((g5.alloc o).alloc o2).cell; have e_g5 := fun o => (g5.alloc o).free; replace o2 := o2.below b; replace B := B.trans (b.mono B.size); clear b
          obtain ⟨⟨u3A, u3n, u3c, rfl⟩, ⟨p3A, p3n, p3c, rfl⟩, ⟨q3A, q3n, q3c, rfl⟩⟩ := om3.rd.forms2
          go_upto_region 15 with (fail)
          refine wp_gen (fun Wv => Bx Wv wa9.heap.size 87 #[.slice u3A u3n u3c, .slice p3A p3n p3c, .slice q3A q3n q3c] ∧ OwnM Wv wa11.heap.size 55 (.slice u3A u3n u3c) (.slice p3A p3n p3c) (.slice q3A q3n q3c) M3 ∧ OwnE Wv wa10.heap.size y2 E3 ∧ OwnM Wv wa3.heap.size 116 (.slice tA tn tc) (.slice oA on oc) (.slice sA sn sc) m ∧ Bx Wv w.heap.size 24 #[.int .i64 a0, .int .i64 b0] ∧ Bx Wv (w.heap.size + 1) 24 #[.int .i64 a1, .int .i64 b1] ∧ Bx Wv wa4.heap.size 87 #[.slice tA tn tc, .slice oA on oc, .slice sA sn sc] ∧ Below w.heap.size w Wv) ⟨g5.put3 _ _ _, OwnM.set3 om3 g5, own_set3 o2 g5 (by decide) _ _ _, OwnM.set3E om g5 (by decide), g1.far3 (g1.ne g5 (by decide)) _ _ _, g2.far3 (g2.ne g5 (by decide)) _ _ _, g3.far3 (by omega) _ _ _, below_set3 B hlt0 _ _ _⟩ ?_
          clear c_g1 f_g1 a_g1 d_g1 e_g1 c_g2 f_g2 a_g2 d_g2 e_g2 c_g3 f_g3 a_g3 d_g3 e_g3 c_g5 f_g5 a_g5 d_g5 e_g5 g1 g2 g3 g5 om om3 o2 B
          rintro wb15 ⟨g5, om3, o2, om, g1, g2, g3, B⟩
          have c_g1 := g1.cell; have f_g1 := g1.free; have a_g1 := fun o => (g1.alloc o).cell; have d_g1 := fun o o2 => ((g1.alloc o).alloc o2).cell; have e_g1 := fun o => (g1.alloc o).free
          have c_g2 := g2.cell; have f_g2 := g2.free; have a_g2 := fun o => (g2.alloc o).cell; have d_g2 := fun o o2 => ((g2.alloc o).alloc o2).cell; have e_g2 := fun o => (g2.alloc o).free
          have c_g3 := g3.cell; have f_g3 := g3.free; have a_g3 := fun o => (g3.alloc o).cell; have d_g3 := fun o o2 => ((g3.alloc o).alloc o2).cell; have e_g3 := fun o => (g3.alloc o).free
          have c_g5 := g5.cell; have f_g5 := g5.free; have a_g5 := fun o => (g5.alloc o).cell; have d_g5 := fun o o2 => ((g5.alloc o).alloc o2).cell; have e_g5 := fun o => (g5.alloc o).free
          clear o2 om3
          go_wp2_with fail
          refine (NA.out _ _ (H.out.below B) rfl).mono ?_
          rintro e wa13 ⟨y5, rfl, o5, b⟩
          try clear c_g1 f_g1 a_g1 d_g1 e_g1
          replace g1 := g1.below b; have c_g1 := g1.cell; have f_g1 := g1.free; have a_g1 := fun o => (g1.alloc o).cell; have d_g1 := fun o o2 => ((g1.alloc o).alloc o2).cell; have e_g1 := fun o => (g1.alloc o).free; try clear c_g2 f_g2 a_g2 d_g2 e_g2
          replace g2 := g2.below b; have c_g2 := g2.cell; have f_g2 := g2.free; have a_g2 := fun o => (g2.alloc o).cell; have d_g2 := fun o o2 => ((g2.alloc o).alloc o2).cell; have e_g2 := fun o => (g2.alloc o).free; try clear c_g3 f_g3 a_g3 d_g3 e_g3
          replace g3 := g3.below b; have c_g3 := g3.cell; have f_g3 := g3.free; have a_g3 := fun o => (g3.alloc o).cell; have d_g3 := fun o o2 => ((g3.alloc o).alloc o2).cell; have e_g3 := fun o => (g3.alloc o).free; try clear c_g5 f_g5 a_g5 d_g5 e_g5
          replace g5 := g5.below b; have c_g5 := g5.cell; have f_g5 := g5.free; have a_g5 := fun o => (g5.alloc o).cell; have d_g5 := fun o o2 => ((g5.alloc o).alloc o2).cell; have e_g5 := fun o => (g5.alloc o).free; replace om := om.below b; replace B := B.trans (b.mono B.size); clear b
          go_wp2_with fail
          refine (NM.out _ _ _ _ _ om.rd rfl).mono ?_
          rintro e wa14 ⟨tb5, ob5, sb5, rfl, om5, b⟩
          try clear c_g1 f_g1 a_g1 d_g1 e_g1
          replace g1 := g1.below b; have c_g1 := g1.cell; have f_g1 := g1.free; have a_g1 := fun o => (g1.alloc o).cell; have d_g1 := fun o o2 => ((g1.alloc o).alloc o2).cell; have e_g1 := fun o => (g1.alloc o).free; try clear c_g2 f_g2 a_g2 d_g2 e_g2
          replace g2 := g2.below b; have c_g2 := g2.cell; have f_g2 := g2.free; have a_g2 := fun o => (g2.alloc o).cell; have d_g2 := fun o o2 => ((g2.alloc o).alloc o2).cell; have e_g2 := fun o => (g2.alloc o).free; try clear c_g3 f_g3 a_g3 d_g3 e_g3
          replace g3 := g3.below b; have c_g3 := g3.cell; have f_g3 := g3.free; have a_g3 := fun o => (g3.alloc o).cell; have d_g3 := fun o o2 => ((g3.alloc o).alloc o2).cell; have e_g3 := fun o => (g3.alloc o).free; try clear c_g5 f_g5 a_g5 d_g5 e_g5
          replace g5 := g5.below b; have c_g5 := g5.cell; have f_g5 := g5.free; have a_g5 := fun o => (g5.alloc o).cell; have d_g5 := fun o o2 => ((g5.alloc o).alloc o2).cell; have e_g5 := fun o => (g5.alloc o).free; replace om := om.below b; replace o5 := o5.below b; replace B := B.trans (b.mono B.size); clear b
          obtain ⟨⟨u5A, u5n, u5c, rfl⟩, ⟨p5A, p5n, p5c, rfl⟩, ⟨q5A, q5n, q5c, rfl⟩⟩ := om5.rd.forms2
          go_upto_region 19 with (fail)
          refine wp_gen (fun Wv => Bx Wv wa9.heap.size 87 #[.slice u5A u5n u5c, .slice p5A p5n p5c, .slice q5A q5n q5c] ∧ OwnM Wv wa13.heap.size 55 (.slice u5A u5n u5c) (.slice p5A p5n p5c) (.slice q5A q5n q5c) M5 ∧ OwnE Wv wb15.heap.size y5 E5 ∧ OwnM Wv wa3.heap.size 116 (.slice tA tn tc) (.slice oA on oc) (.slice sA sn sc) m ∧ Bx Wv w.heap.size 24 #[.int .i64 a0, .int .i64 b0] ∧ Bx Wv (w.heap.size + 1) 24 #[.int .i64 a1, .int .i64 b1] ∧ Bx Wv wa4.heap.size 87 #[.slice tA tn tc, .slice oA on oc, .slice sA sn sc] ∧ Below w.heap.size w Wv) ⟨g5.put3 _ _ _, OwnM.set3 om5 g5, own_set3 o5 g5 (by decide) _ _ _, OwnM.set3E om g5 (by decide), g1.far3 (g1.ne g5 (by decide)) _ _ _, g2.far3 (g2.ne g5 (by decide)) _ _ _, g3.far3 (by omega) _ _ _, below_set3 B hlt0 _ _ _⟩ ?_
          clear c_g1 f_g1 a_g1 d_g1 e_g1 c_g2 f_g2 a_g2 d_g2 e_g2 c_g3 f_g3 a_g3 d_g3 e_g3 c_g5 f_g5 a_g5 d_g5 e_g5 g1 g2 g3 g5 om om5 o5 B
          rintro wb19 ⟨g5, om5, o5, om, g1, g2, g3, B⟩
          have c_g1 := g1.cell; have f_g1 := g1.free; have a_g1 := fun o => (g1.alloc o).cell; have d_g1 := fun o o2 => ((g1.alloc o).alloc o2).cell; have e_g1 := fun o => (g1.alloc o).free
          have c_g2 := g2.cell; have f_g2 := g2.free; have a_g2 := fun o => (g2.alloc o).cell; have d_g2 := fun o o2 => ((g2.alloc o).alloc o2).cell; have e_g2 := fun o => (g2.alloc o).free
          have c_g3 := g3.cell; have f_g3 := g3.free; have a_g3 := fun o => (g3.alloc o).cell; have d_g3 := fun o o2 => ((g3.alloc o).alloc o2).cell; have e_g3 := fun o => (g3.alloc o).free
          have c_g5 := g5.cell; have f_g5 := g5.free; have a_g5 := fun o => (g5.alloc o).cell; have d_g5 := fun o o2 => ((g5.alloc o).alloc o2).cell; have e_g5 := fun o => (g5.alloc o).free
          go_wp2_with fail
          refine (BT5.out _ _ _ _ _ (H.out.below B) o5.rd om5.rd).mono ?_
          rintro e wa15 ⟨rfl, b⟩
          try clear c_g1 f_g1 a_g1 d_g1 e_g1
          replace g1 := g1.below b; have c_g1 := g1.cell; have f_g1 := g1.free; have a_g1 := fun o => (g1.alloc o).cell; have d_g1 := fun o o2 => ((g1.alloc o).alloc o2).cell; have e_g1 := fun o => (g1.alloc o).free; try clear c_g2 f_g2 a_g2 d_g2 e_g2
          replace g2 := g2.below b; have c_g2 := g2.cell; have f_g2 := g2.free; have a_g2 := fun o => (g2.alloc o).cell; have d_g2 := fun o o2 => ((g2.alloc o).alloc o2).cell; have e_g2 := fun o => (g2.alloc o).free; try clear c_g3 f_g3 a_g3 d_g3 e_g3
          replace g3 := g3.below b; have c_g3 := g3.cell; have f_g3 := g3.free; have a_g3 := fun o => (g3.alloc o).cell; have d_g3 := fun o o2 => ((g3.alloc o).alloc o2).cell; have e_g3 := fun o => (g3.alloc o).free; try clear c_g5 f_g5 a_g5 d_g5 e_g5
          replace g5 := g5.below b; have c_g5 := g5.cell; have f_g5 := g5.free; have a_g5 := fun o => (g5.alloc o).cell; have d_g5 := fun o o2 => ((g5.alloc o).alloc o2).cell; have e_g5 := fun o => (g5.alloc o).free; replace om := om.below b; replace om5 := om5.below b; replace o5 := o5.below b; replace B := B.trans (b.mono B.size); clear b
          clear o5 om5
          go_wp2_with fail
          refine (OA.out _ (H.out.below B)).mono ?_
          rintro e wa16 ⟨y4, rfl, o4, b⟩
          try clear c_g1 f_g1 a_g1 d_g1 e_g1
          replace g1 := g1.below b; have c_g1 := g1.cell; have f_g1 := g1.free; have a_g1 := fun o => (g1.alloc o).cell; have d_g1 := fun o o2 => ((g1.alloc o).alloc o2).cell; have e_g1 := fun o => (g1.alloc o).free; try clear c_g2 f_g2 a_g2 d_g2 e_g2
          replace g2 := g2.below b; have c_g2 := g2.cell; have f_g2 := g2.free; have a_g2 := fun o => (g2.alloc o).cell; have d_g2 := fun o o2 => ((g2.alloc o).alloc o2).cell; have e_g2 := fun o => (g2.alloc o).free; try clear c_g3 f_g3 a_g3 d_g3 e_g3
          replace g3 := g3.below b; have c_g3 := g3.cell; have f_g3 := g3.free; have a_g3 := fun o => (g3.alloc o).cell; have d_g3 := fun o o2 => ((g3.alloc o).alloc o2).cell; have e_g3 := fun o => (g3.alloc o).free; try clear c_g5 f_g5 a_g5 d_g5 e_g5
          replace g5 := g5.below b; have c_g5 := g5.cell; have f_g5 := g5.free; have a_g5 := fun o => (g5.alloc o).cell; have d_g5 := fun o o2 => ((g5.alloc o).alloc o2).cell; have e_g5 := fun o => (g5.alloc o).free; replace om := om.below b; replace B := B.trans (b.mono B.size); clear b
          go_upto_region 22 with (fail)
          refine wp_gen (fun Wv => Bx Wv (wa16.heap.size) (24) (#[.int .i64 s4, .int .i64 g4]) ∧ Below wa16.heap.size wa16 Wv) ⟨((Bx.at_ (by simp))), ((Below.refl _ wa16).alloc (by simp <;> omega) _)⟩ ?_
          rintro wa17 ⟨g6, b⟩
          try clear c_g1 f_g1 a_g1 d_g1 e_g1
          replace g1 := g1.below b; have c_g1 := g1.cell; have f_g1 := g1.free; have a_g1 := fun o => (g1.alloc o).cell; have d_g1 := fun o o2 => ((g1.alloc o).alloc o2).cell; have e_g1 := fun o => (g1.alloc o).free; try clear c_g2 f_g2 a_g2 d_g2 e_g2
          replace g2 := g2.below b; have c_g2 := g2.cell; have f_g2 := g2.free; have a_g2 := fun o => (g2.alloc o).cell; have d_g2 := fun o o2 => ((g2.alloc o).alloc o2).cell; have e_g2 := fun o => (g2.alloc o).free; try clear c_g3 f_g3 a_g3 d_g3 e_g3
          replace g3 := g3.below b; have c_g3 := g3.cell; have f_g3 := g3.free; have a_g3 := fun o => (g3.alloc o).cell; have d_g3 := fun o o2 => ((g3.alloc o).alloc o2).cell; have e_g3 := fun o => (g3.alloc o).free; try clear c_g5 f_g5 a_g5 d_g5 e_g5
          replace g5 := g5.below b; have c_g5 := g5.cell; have f_g5 := g5.free; have a_g5 := fun o => (g5.alloc o).cell; have d_g5 := fun o o2 => ((g5.alloc o).alloc o2).cell; have e_g5 := fun o => (g5.alloc o).free; replace om := om.below b; replace o4 := o4.below b; replace B := B.trans (b.mono B.size); clear b
          have c_g6 := g6.cell; have f_g6 := g6.free; have a_g6 := fun o => (g6.alloc o).cell; have d_g6 := fun o o2 => ((g6.alloc o).alloc o2).cell; have e_g6 := fun o => (g6.alloc o).free
          go_wp2_with fail
          refine (OMo.out _ _ _ _ om.rd).mono ?_
          rintro e wa18 ⟨tb4, ob4, sb4, rfl, om4, b⟩
          try clear c_g1 f_g1 a_g1 d_g1 e_g1
          replace g1 := g1.below b; have c_g1 := g1.cell; have f_g1 := g1.free; have a_g1 := fun o => (g1.alloc o).cell; have d_g1 := fun o o2 => ((g1.alloc o).alloc o2).cell; have e_g1 := fun o => (g1.alloc o).free; try clear c_g2 f_g2 a_g2 d_g2 e_g2
          replace g2 := g2.below b; have c_g2 := g2.cell; have f_g2 := g2.free; have a_g2 := fun o => (g2.alloc o).cell; have d_g2 := fun o o2 => ((g2.alloc o).alloc o2).cell; have e_g2 := fun o => (g2.alloc o).free; try clear c_g3 f_g3 a_g3 d_g3 e_g3
          replace g3 := g3.below b; have c_g3 := g3.cell; have f_g3 := g3.free; have a_g3 := fun o => (g3.alloc o).cell; have d_g3 := fun o o2 => ((g3.alloc o).alloc o2).cell; have e_g3 := fun o => (g3.alloc o).free; try clear c_g5 f_g5 a_g5 d_g5 e_g5
          replace g5 := g5.below b; have c_g5 := g5.cell; have f_g5 := g5.free; have a_g5 := fun o => (g5.alloc o).cell; have d_g5 := fun o o2 => ((g5.alloc o).alloc o2).cell; have e_g5 := fun o => (g5.alloc o).free; replace om := om.below b; replace o4 := o4.below b; try clear c_g6 f_g6 a_g6 d_g6 e_g6
          replace g6 := g6.below b; have c_g6 := g6.cell; have f_g6 := g6.free; have a_g6 := fun o => (g6.alloc o).cell; have d_g6 := fun o o2 => ((g6.alloc o).alloc o2).cell; have e_g6 := fun o => (g6.alloc o).free; replace B := B.trans (b.mono B.size); clear b
          obtain ⟨⟨u4A, u4n, u4c, rfl⟩, ⟨p4A, p4n, p4c, rfl⟩, ⟨q4A, q4n, q4c, rfl⟩⟩ := om4.rd.forms2
          have hlt5 := g5.lt
          have hn1 : wa18.heap.size ≠ wa9.heap.size := by omega
          have hn2 : wa9.heap.size ≠ wa18.heap.size := by omega
          go_upto_region 23 with (fail)
          refine wp_gen (fun Wv => Bx Wv wa9.heap.size 87 #[.slice u4A u4n u4c, .slice p4A p4n p4c, .slice q4A q4n q4c] ∧ Bx Wv wa16.heap.size 24 #[.int .i64 s4, .int .i64 g4] ∧ Bx Wv wa18.heap.size 24 #[.int .i64 s4, .int .i64 g4] ∧ OwnM Wv wa17.heap.size 55 (.slice u4A u4n u4c) (.slice p4A p4n p4c) (.slice q4A q4n q4c) M4 ∧ Ents Wv y4 E4 ∧ Below w.heap.size w Wv) ?_ ?_
          · have z5 := g5.put3 (.slice u4A u4n u4c) (.slice p4A p4n p4c) (.slice q4A q4n q4c)
            have z6 := g6.far3 (g6.ne g5 (by decide)) (.slice u4A u4n u4c) (.slice p4A p4n p4c) (.slice q4A q4n q4c)
            have zm := OwnM.set3 (a := .slice u4A u4n u4c) (b := .slice p4A p4n p4c) (c := .slice q4A q4n q4c) om4 g5
            have ze := own_set3 o4 g5 (by decide) (.slice u4A u4n u4c) (.slice p4A p4n p4c) (.slice q4A q4n q4c)
            have zb := below_set3 B hlt0 (.slice u4A u4n u4c) (.slice p4A p4n p4c) (.slice q4A q4n q4c)
            generalize hW3 : (((wa18.setCell ⟨wa9.heap.size, 0, none⟩ (.slice u4A u4n u4c)).setCell ⟨wa9.heap.size, 1, none⟩ (.slice p4A p4n p4c)).setCell ⟨wa9.heap.size, 2, none⟩ (.slice q4A q4n q4c)) = W3 at *
            have hsz : W3.heap.size = wa18.heap.size := by rw [← hW3]; simp [World.setCell]
            have hal : Below W3.heap.size W3 (W3.alloc (.cells #[.int .i64 s4, .int .i64 g4] 24)) := (Below.refl _ _).alloc (Nat.le_refl _) _
            refine ⟨z5.below hal, z6.below hal, ?_, zm.below hal, (OwnE.below ze hal).rd, zb.trans (hal.mono zb.size)⟩
            rw [← hsz]; exact Bx.new _ _ _
          clear c_g1 f_g1 a_g1 d_g1 e_g1 c_g2 f_g2 a_g2 d_g2 e_g2 c_g3 f_g3 a_g3 d_g3 e_g3 c_g5 f_g5 a_g5 d_g5 e_g5 c_g6 f_g6 a_g6 d_g6 e_g6 g1 g2 g3 g5 g6 om om4 o4 B
          rintro wz ⟨g5, g6, g7, om4, q4, B⟩
          have c_g5 := g5.cell; have c_g6 := g6.cell; have c_g7 := g7.cell
          go_wp2_with fail
          refine (BT4.out _ _ _ _ _ (H.out.below B) q4 om4.rd).mono ?_
          rintro e wa19 ⟨rfl, b⟩
          replace B := B.trans (b.mono B.size); clear b
          go_wp2
          go_ret
          exact ⟨rfl, B⟩
        · have n3 := nz _ c3; have n4 := nz _ c4; have m4 := nb _ c4
          clear c1 c3 c4 HB1 HBA HBN HB4 nz nb
          go_enter Try.func12, Try.ntmps12
          go_upto_region 1 with (fail)
          refine wp_gen (fun Wv => Bx Wv (w.heap.size) (24) (#[.int .i64 a0, .int .i64 b0]) ∧ Bx Wv (w.heap.size + 1) (24) (#[.int .i64 a1, .int .i64 b1]) ∧ Below w.heap.size w Wv) ⟨(((Bx.at_ (by simp)).alloc _)), ((Bx.at_ (by simp))), (((Below.refl _ w).alloc (by simp <;> omega) _).alloc (by simp <;> omega) _)⟩ ?_
          rintro wa1 ⟨g1, g2, b⟩
          replace B := B.trans (b.mono B.size); clear b
          have c_g1 := g1.cell; have f_g1 := g1.free; have a_g1 := fun o => (g1.alloc o).cell; have d_g1 := fun o o2 => ((g1.alloc o).alloc o2).cell; have e_g1 := fun o => (g1.alloc o).free
          have c_g2 := g2.cell; have f_g2 := g2.free; have a_g2 := fun o => (g2.alloc o).cell; have d_g2 := fun o o2 => ((g2.alloc o).alloc o2).cell; have e_g2 := fun o => (g2.alloc o).free
          go_wp2_with fail
          refine (AL.out _).mono ?_
          rintro e wa2 ⟨rfl, b⟩
          try clear c_g1 f_g1 a_g1 d_g1 e_g1
          replace g1 := g1.below b; have c_g1 := g1.cell; have f_g1 := g1.free; have a_g1 := fun o => (g1.alloc o).cell; have d_g1 := fun o o2 => ((g1.alloc o).alloc o2).cell; have e_g1 := fun o => (g1.alloc o).free; try clear c_g2 f_g2 a_g2 d_g2 e_g2
          replace g2 := g2.below b; have c_g2 := g2.cell; have f_g2 := g2.free; have a_g2 := fun o => (g2.alloc o).cell; have d_g2 := fun o o2 => ((g2.alloc o).alloc o2).cell; have e_g2 := fun o => (g2.alloc o).free; replace B := B.trans (b.mono B.size); clear b
          go_wp2_with fail
          refine (G.out _ (H.out.below B)).mono ?_
          rintro e w2 ⟨rfl, rfl⟩
          go_wp2_with fail
          refine (CK.out _ (H.out.below B)).mono ?_
          rintro e wa3 ⟨rfl, b⟩
          try clear c_g1 f_g1 a_g1 d_g1 e_g1
          replace g1 := g1.below b; have c_g1 := g1.cell; have f_g1 := g1.free; have a_g1 := fun o => (g1.alloc o).cell; have d_g1 := fun o o2 => ((g1.alloc o).alloc o2).cell; have e_g1 := fun o => (g1.alloc o).free; try clear c_g2 f_g2 a_g2 d_g2 e_g2
          replace g2 := g2.below b; have c_g2 := g2.cell; have f_g2 := g2.free; have a_g2 := fun o => (g2.alloc o).cell; have d_g2 := fun o o2 => ((g2.alloc o).alloc o2).cell; have e_g2 := fun o => (g2.alloc o).free; replace B := B.trans (b.mono B.size); clear b
          go_wp2_with fail
          refine (OM.out _ (H.out.below B)).mono ?_
          rintro e wa4 ⟨ta, oa, sa, rfl, om, b⟩
          try clear c_g1 f_g1 a_g1 d_g1 e_g1
          replace g1 := g1.below b; have c_g1 := g1.cell; have f_g1 := g1.free; have a_g1 := fun o => (g1.alloc o).cell; have d_g1 := fun o o2 => ((g1.alloc o).alloc o2).cell; have e_g1 := fun o => (g1.alloc o).free; try clear c_g2 f_g2 a_g2 d_g2 e_g2
          replace g2 := g2.below b; have c_g2 := g2.cell; have f_g2 := g2.free; have a_g2 := fun o => (g2.alloc o).cell; have d_g2 := fun o o2 => ((g2.alloc o).alloc o2).cell; have e_g2 := fun o => (g2.alloc o).free; replace B := B.trans (b.mono B.size); clear b
          obtain ⟨⟨tA, tn, tc, rfl⟩, ⟨oA, on, oc, rfl⟩, ⟨sA, sn, sc, rfl⟩⟩ := om.rd.forms2
          go_upto_region 5 with (fail)
          refine wp_gen (fun Wv => Bx Wv (wa4.heap.size) (87) (#[.slice tA tn tc, .slice oA on oc, .slice sA sn sc]) ∧ Below wa4.heap.size wa4 Wv) ⟨((Bx.at_ (by simp))), ((Below.refl _ wa4).alloc (by simp <;> omega) _)⟩ ?_
          rintro wa5 ⟨g3, b⟩
          try clear c_g1 f_g1 a_g1 d_g1 e_g1
          replace g1 := g1.below b; have c_g1 := g1.cell; have f_g1 := g1.free; have a_g1 := fun o => (g1.alloc o).cell; have d_g1 := fun o o2 => ((g1.alloc o).alloc o2).cell; have e_g1 := fun o => (g1.alloc o).free; try clear c_g2 f_g2 a_g2 d_g2 e_g2
          replace g2 := g2.below b; have c_g2 := g2.cell; have f_g2 := g2.free; have a_g2 := fun o => (g2.alloc o).cell; have d_g2 := fun o o2 => ((g2.alloc o).alloc o2).cell; have e_g2 := fun o => (g2.alloc o).free; replace om := om.below b; replace B := B.trans (b.mono B.size); clear b
          have c_g3 := g3.cell; have f_g3 := g3.free; have a_g3 := fun o => (g3.alloc o).cell; have d_g3 := fun o o2 => ((g3.alloc o).alloc o2).cell; have e_g3 := fun o => (g3.alloc o).free
          go_wp2_with fail
          refine (GA.out _ (H.out.below B)).mono ?_
          rintro e wa6 ⟨rfl, b⟩
          try clear c_g1 f_g1 a_g1 d_g1 e_g1
          replace g1 := g1.below b; have c_g1 := g1.cell; have f_g1 := g1.free; have a_g1 := fun o => (g1.alloc o).cell; have d_g1 := fun o o2 => ((g1.alloc o).alloc o2).cell; have e_g1 := fun o => (g1.alloc o).free; try clear c_g2 f_g2 a_g2 d_g2 e_g2
          replace g2 := g2.below b; have c_g2 := g2.cell; have f_g2 := g2.free; have a_g2 := fun o => (g2.alloc o).cell; have d_g2 := fun o o2 => ((g2.alloc o).alloc o2).cell; have e_g2 := fun o => (g2.alloc o).free; replace om := om.below b; try clear c_g3 f_g3 a_g3 d_g3 e_g3
          replace g3 := g3.below b; have c_g3 := g3.cell; have f_g3 := g3.free; have a_g3 := fun o => (g3.alloc o).cell; have d_g3 := fun o o2 => ((g3.alloc o).alloc o2).cell; have e_g3 := fun o => (g3.alloc o).free; replace B := B.trans (b.mono B.size); clear b
          go_wp2_with fail
          refine (GM.out _ _ _ _ om.rd).mono ?_
          rintro e wa7 ⟨rfl, b⟩
          try clear c_g1 f_g1 a_g1 d_g1 e_g1
          replace g1 := g1.below b; have c_g1 := g1.cell; have f_g1 := g1.free; have a_g1 := fun o => (g1.alloc o).cell; have d_g1 := fun o o2 => ((g1.alloc o).alloc o2).cell; have e_g1 := fun o => (g1.alloc o).free; try clear c_g2 f_g2 a_g2 d_g2 e_g2
          replace g2 := g2.below b; have c_g2 := g2.cell; have f_g2 := g2.free; have a_g2 := fun o => (g2.alloc o).cell; have d_g2 := fun o o2 => ((g2.alloc o).alloc o2).cell; have e_g2 := fun o => (g2.alloc o).free; replace om := om.below b; try clear c_g3 f_g3 a_g3 d_g3 e_g3
          replace g3 := g3.below b; have c_g3 := g3.cell; have f_g3 := g3.free; have a_g3 := fun o => (g3.alloc o).cell; have d_g3 := fun o o2 => ((g3.alloc o).alloc o2).cell; have e_g3 := fun o => (g3.alloc o).free; replace B := B.trans (b.mono B.size); clear b
          go_wp2_with fail
          refine (SA.out _ (H.out.below B)).mono ?_
          rintro e wa8 ⟨y1, rfl, o1, b⟩
          try clear c_g1 f_g1 a_g1 d_g1 e_g1
          replace g1 := g1.below b; have c_g1 := g1.cell; have f_g1 := g1.free; have a_g1 := fun o => (g1.alloc o).cell; have d_g1 := fun o o2 => ((g1.alloc o).alloc o2).cell; have e_g1 := fun o => (g1.alloc o).free; try clear c_g2 f_g2 a_g2 d_g2 e_g2
          replace g2 := g2.below b; have c_g2 := g2.cell; have f_g2 := g2.free; have a_g2 := fun o => (g2.alloc o).cell; have d_g2 := fun o o2 => ((g2.alloc o).alloc o2).cell; have e_g2 := fun o => (g2.alloc o).free; replace om := om.below b; try clear c_g3 f_g3 a_g3 d_g3 e_g3
          replace g3 := g3.below b; have c_g3 := g3.cell; have f_g3 := g3.free; have a_g3 := fun o => (g3.alloc o).cell; have d_g3 := fun o o2 => ((g3.alloc o).alloc o2).cell; have e_g3 := fun o => (g3.alloc o).free; replace B := B.trans (b.mono B.size); clear b
          go_wp2_with fail
          refine (SMo.out _ _ _ _ om.rd).mono ?_
          rintro e wa9 ⟨tb, ob, sb, rfl, om2, b⟩
          try clear c_g1 f_g1 a_g1 d_g1 e_g1
          replace g1 := g1.below b; have c_g1 := g1.cell; have f_g1 := g1.free; have a_g1 := fun o => (g1.alloc o).cell; have d_g1 := fun o o2 => ((g1.alloc o).alloc o2).cell; have e_g1 := fun o => (g1.alloc o).free; try clear c_g2 f_g2 a_g2 d_g2 e_g2
          replace g2 := g2.below b; have c_g2 := g2.cell; have f_g2 := g2.free; have a_g2 := fun o => (g2.alloc o).cell; have d_g2 := fun o o2 => ((g2.alloc o).alloc o2).cell; have e_g2 := fun o => (g2.alloc o).free; replace om := om.below b; try clear c_g3 f_g3 a_g3 d_g3 e_g3
          replace g3 := g3.below b; have c_g3 := g3.cell; have f_g3 := g3.free; have a_g3 := fun o => (g3.alloc o).cell; have d_g3 := fun o o2 => ((g3.alloc o).alloc o2).cell; have e_g3 := fun o => (g3.alloc o).free; replace o1 := o1.below b; replace B := B.trans (b.mono B.size); clear b
          obtain ⟨⟨uA, un, uc, rfl⟩, ⟨pA, pn, pc, rfl⟩, ⟨qA, qn, qc, rfl⟩⟩ := om2.rd.forms2
          go_upto_region 11 with (fail)
          have hlt3 := g3.lt
          have hlt0 := B.size
          refine wp_gen (fun Wv => Bx Wv (wa9.heap.size) (87) (#[.slice uA un uc, .slice pA pn pc, .slice qA qn qc]) ∧ Below wa9.heap.size wa9 Wv) ⟨((Bx.at_ (by simp))), ((Below.refl _ wa9).alloc (by simp <;> omega) _)⟩ ?_
          rintro wa10 ⟨g5, b⟩
          try clear c_g1 f_g1 a_g1 d_g1 e_g1
          replace g1 := g1.below b; have c_g1 := g1.cell; have f_g1 := g1.free; have a_g1 := fun o => (g1.alloc o).cell; have d_g1 := fun o o2 => ((g1.alloc o).alloc o2).cell; have e_g1 := fun o => (g1.alloc o).free; try clear c_g2 f_g2 a_g2 d_g2 e_g2
          replace g2 := g2.below b; have c_g2 := g2.cell; have f_g2 := g2.free; have a_g2 := fun o => (g2.alloc o).cell; have d_g2 := fun o o2 => ((g2.alloc o).alloc o2).cell; have e_g2 := fun o => (g2.alloc o).free; replace om := om.below b; try clear c_g3 f_g3 a_g3 d_g3 e_g3
          replace g3 := g3.below b; have c_g3 := g3.cell; have f_g3 := g3.free; have a_g3 := fun o => (g3.alloc o).cell; have d_g3 := fun o o2 => ((g3.alloc o).alloc o2).cell; have e_g3 := fun o => (g3.alloc o).free; replace o1 := o1.below b; replace om2 := om2.below b; replace B := B.trans (b.mono B.size); clear b
          have c_g5 := g5.cell; have f_g5 := g5.free; have a_g5 := fun o => (g5.alloc o).cell; have d_g5 := fun o o2 => ((g5.alloc o).alloc o2).cell; have e_g5 := fun o => (g5.alloc o).free
          clear o1 om2
          go_wp2_with fail
          refine (RA.out _ _ (H.out.below B) ⟨_, rfl, g2⟩).mono ?_
          rintro e wa11 ⟨y2, rfl, o2, b⟩
          try clear c_g1 f_g1 a_g1 d_g1 e_g1
          replace g1 := g1.below b; have c_g1 := g1.cell; have f_g1 := g1.free; have a_g1 := fun o => (g1.alloc o).cell; have d_g1 := fun o o2 => ((g1.alloc o).alloc o2).cell; have e_g1 := fun o => (g1.alloc o).free; try clear c_g2 f_g2 a_g2 d_g2 e_g2
          replace g2 := g2.below b; have c_g2 := g2.cell; have f_g2 := g2.free; have a_g2 := fun o => (g2.alloc o).cell; have d_g2 := fun o o2 => ((g2.alloc o).alloc o2).cell; have e_g2 := fun o => (g2.alloc o).free; replace om := om.below b; try clear c_g3 f_g3 a_g3 d_g3 e_g3
          replace g3 := g3.below b; have c_g3 := g3.cell; have f_g3 := g3.free; have a_g3 := fun o => (g3.alloc o).cell; have d_g3 := fun o o2 => ((g3.alloc o).alloc o2).cell; have e_g3 := fun o => (g3.alloc o).free; try clear c_g5 f_g5 a_g5 d_g5 e_g5
          replace g5 := g5.below b; have c_g5 := g5.cell; have f_g5 := g5.free; have a_g5 := fun o => (g5.alloc o).cell; have d_g5 := fun o o2 => ((g5.alloc o).alloc o2).cell; have e_g5 := fun o => (g5.alloc o).free; replace B := B.trans (b.mono B.size); clear b
          go_wp2_with fail
          refine (RM.out _ _ _ _ _ om.rd ⟨_, rfl, g2⟩).mono ?_
          rintro e wa12 ⟨tb3, ob3, sb3, rfl, om3, b⟩
          try clear c_g1 f_g1 a_g1 d_g1 e_g1
          replace g1 := g1.below b; have c_g1 := g1.cell; have f_g1 := g1.free; have a_g1 := fun o => (g1.alloc o).cell; have d_g1 := fun o o2 => ((g1.alloc o).alloc o2).cell; have e_g1 := fun o => (g1.alloc o).free; try clear c_g2 f_g2 a_g2 d_g2 e_g2
          replace g2 := g2.below b; have c_g2 := g2.cell; have f_g2 := g2.free; have a_g2 := fun o => (g2.alloc o).cell; have d_g2 := fun o o2 => ((g2.alloc o).alloc o2).cell; have e_g2 := fun o => (g2.alloc o).free; replace om := om.below b; try clear c_g3 f_g3 a_g3 d_g3 e_g3
          replace g3 := g3.below b; have c_g3 := g3.cell; have f_g3 := g3.free; have a_g3 := fun o => (g3.alloc o).cell; have d_g3 := fun o o2 => ((g3.alloc o).alloc o2).cell; have e_g3 := fun o => (g3.alloc o).free; try clear c_g5 f_g5 a_g5 d_g5 e_g5
          replace g5 := g5.below b; have c_g5 := g5.cell; have f_g5 := g5.free; have a_g5 := fun o => (g5.alloc o).cell; have d_g5 := fun o o2 => ((g5.alloc o).alloc o2).cell; have e_g5 := fun o => (g5.alloc o).free; replace o2 := o2.below b; replace B := B.trans (b.mono B.size); clear b
          obtain ⟨⟨u3A, u3n, u3c, rfl⟩, ⟨p3A, p3n, p3c, rfl⟩, ⟨q3A, q3n, q3c, rfl⟩⟩ := om3.rd.forms2
          go_upto_region 15 with (fail)
          refine wp_gen (fun Wv => Bx Wv wa9.heap.size 87 #[.slice u3A u3n u3c, .slice p3A p3n p3c, .slice q3A q3n q3c] ∧ OwnM Wv wa11.heap.size 55 (.slice u3A u3n u3c) (.slice p3A p3n p3c) (.slice q3A q3n q3c) M3 ∧ OwnE Wv wa10.heap.size y2 E3 ∧ OwnM Wv wa3.heap.size 116 (.slice tA tn tc) (.slice oA on oc) (.slice sA sn sc) m ∧ Bx Wv w.heap.size 24 #[.int .i64 a0, .int .i64 b0] ∧ Bx Wv (w.heap.size + 1) 24 #[.int .i64 a1, .int .i64 b1] ∧ Bx Wv wa4.heap.size 87 #[.slice tA tn tc, .slice oA on oc, .slice sA sn sc] ∧ Below w.heap.size w Wv) ⟨g5.put3 _ _ _, OwnM.set3 om3 g5, own_set3 o2 g5 (by decide) _ _ _, OwnM.set3E om g5 (by decide), g1.far3 (g1.ne g5 (by decide)) _ _ _, g2.far3 (g2.ne g5 (by decide)) _ _ _, g3.far3 (by omega) _ _ _, below_set3 B hlt0 _ _ _⟩ ?_
          clear c_g1 f_g1 a_g1 d_g1 e_g1 c_g2 f_g2 a_g2 d_g2 e_g2 c_g3 f_g3 a_g3 d_g3 e_g3 c_g5 f_g5 a_g5 d_g5 e_g5 g1 g2 g3 g5 om om3 o2 B
          rintro wb15 ⟨g5, om3, o2, om, g1, g2, g3, B⟩
          have c_g1 := g1.cell; have f_g1 := g1.free; have a_g1 := fun o => (g1.alloc o).cell; have d_g1 := fun o o2 => ((g1.alloc o).alloc o2).cell; have e_g1 := fun o => (g1.alloc o).free
          have c_g2 := g2.cell; have f_g2 := g2.free; have a_g2 := fun o => (g2.alloc o).cell; have d_g2 := fun o o2 => ((g2.alloc o).alloc o2).cell; have e_g2 := fun o => (g2.alloc o).free
          have c_g3 := g3.cell; have f_g3 := g3.free; have a_g3 := fun o => (g3.alloc o).cell; have d_g3 := fun o o2 => ((g3.alloc o).alloc o2).cell; have e_g3 := fun o => (g3.alloc o).free
          have c_g5 := g5.cell; have f_g5 := g5.free; have a_g5 := fun o => (g5.alloc o).cell; have d_g5 := fun o o2 => ((g5.alloc o).alloc o2).cell; have e_g5 := fun o => (g5.alloc o).free
          clear o2 om3
          go_wp2_with fail
          refine (NA.out _ _ (H.out.below B) rfl).mono ?_
          rintro e wa13 ⟨y5, rfl, o5, b⟩
          try clear c_g1 f_g1 a_g1 d_g1 e_g1
          replace g1 := g1.below b; have c_g1 := g1.cell; have f_g1 := g1.free; have a_g1 := fun o => (g1.alloc o).cell; have d_g1 := fun o o2 => ((g1.alloc o).alloc o2).cell; have e_g1 := fun o => (g1.alloc o).free; try clear c_g2 f_g2 a_g2 d_g2 e_g2
          replace g2 := g2.below b; have c_g2 := g2.cell; have f_g2 := g2.free; have a_g2 := fun o => (g2.alloc o).cell; have d_g2 := fun o o2 => ((g2.alloc o).alloc o2).cell; have e_g2 := fun o => (g2.alloc o).free; try clear c_g3 f_g3 a_g3 d_g3 e_g3
          replace g3 := g3.below b; have c_g3 := g3.cell; have f_g3 := g3.free; have a_g3 := fun o => (g3.alloc o).cell; have d_g3 := fun o o2 => ((g3.alloc o).alloc o2).cell; have e_g3 := fun o => (g3.alloc o).free; try clear c_g5 f_g5 a_g5 d_g5 e_g5
          replace g5 := g5.below b; have c_g5 := g5.cell; have f_g5 := g5.free; have a_g5 := fun o => (g5.alloc o).cell; have d_g5 := fun o o2 => ((g5.alloc o).alloc o2).cell; have e_g5 := fun o => (g5.alloc o).free; replace om := om.below b; replace B := B.trans (b.mono B.size); clear b
          go_wp2_with fail
          refine (NM.out _ _ _ _ _ om.rd rfl).mono ?_
          rintro e wa14 ⟨tb5, ob5, sb5, rfl, om5, b⟩
          try clear c_g1 f_g1 a_g1 d_g1 e_g1
          replace g1 := g1.below b; have c_g1 := g1.cell; have f_g1 := g1.free; have a_g1 := fun o => (g1.alloc o).cell; have d_g1 := fun o o2 => ((g1.alloc o).alloc o2).cell; have e_g1 := fun o => (g1.alloc o).free; try clear c_g2 f_g2 a_g2 d_g2 e_g2
          replace g2 := g2.below b; have c_g2 := g2.cell; have f_g2 := g2.free; have a_g2 := fun o => (g2.alloc o).cell; have d_g2 := fun o o2 => ((g2.alloc o).alloc o2).cell; have e_g2 := fun o => (g2.alloc o).free; try clear c_g3 f_g3 a_g3 d_g3 e_g3
          replace g3 := g3.below b; have c_g3 := g3.cell; have f_g3 := g3.free; have a_g3 := fun o => (g3.alloc o).cell; have d_g3 := fun o o2 => ((g3.alloc o).alloc o2).cell; have e_g3 := fun o => (g3.alloc o).free; try clear c_g5 f_g5 a_g5 d_g5 e_g5
          replace g5 := g5.below b; have c_g5 := g5.cell; have f_g5 := g5.free; have a_g5 := fun o => (g5.alloc o).cell; have d_g5 := fun o o2 => ((g5.alloc o).alloc o2).cell; have e_g5 := fun o => (g5.alloc o).free; replace om := om.below b; replace o5 := o5.below b; replace B := B.trans (b.mono B.size); clear b
          obtain ⟨⟨u5A, u5n, u5c, rfl⟩, ⟨p5A, p5n, p5c, rfl⟩, ⟨q5A, q5n, q5c, rfl⟩⟩ := om5.rd.forms2
          go_upto_region 19 with (fail)
          refine wp_gen (fun Wv => Bx Wv wa9.heap.size 87 #[.slice u5A u5n u5c, .slice p5A p5n p5c, .slice q5A q5n q5c] ∧ OwnM Wv wa13.heap.size 55 (.slice u5A u5n u5c) (.slice p5A p5n p5c) (.slice q5A q5n q5c) M5 ∧ OwnE Wv wb15.heap.size y5 E5 ∧ OwnM Wv wa3.heap.size 116 (.slice tA tn tc) (.slice oA on oc) (.slice sA sn sc) m ∧ Bx Wv w.heap.size 24 #[.int .i64 a0, .int .i64 b0] ∧ Bx Wv (w.heap.size + 1) 24 #[.int .i64 a1, .int .i64 b1] ∧ Bx Wv wa4.heap.size 87 #[.slice tA tn tc, .slice oA on oc, .slice sA sn sc] ∧ Below w.heap.size w Wv) ⟨g5.put3 _ _ _, OwnM.set3 om5 g5, own_set3 o5 g5 (by decide) _ _ _, OwnM.set3E om g5 (by decide), g1.far3 (g1.ne g5 (by decide)) _ _ _, g2.far3 (g2.ne g5 (by decide)) _ _ _, g3.far3 (by omega) _ _ _, below_set3 B hlt0 _ _ _⟩ ?_
          clear c_g1 f_g1 a_g1 d_g1 e_g1 c_g2 f_g2 a_g2 d_g2 e_g2 c_g3 f_g3 a_g3 d_g3 e_g3 c_g5 f_g5 a_g5 d_g5 e_g5 g1 g2 g3 g5 om om5 o5 B
          rintro wb19 ⟨g5, om5, o5, om, g1, g2, g3, B⟩
          have c_g1 := g1.cell; have f_g1 := g1.free; have a_g1 := fun o => (g1.alloc o).cell; have d_g1 := fun o o2 => ((g1.alloc o).alloc o2).cell; have e_g1 := fun o => (g1.alloc o).free
          have c_g2 := g2.cell; have f_g2 := g2.free; have a_g2 := fun o => (g2.alloc o).cell; have d_g2 := fun o o2 => ((g2.alloc o).alloc o2).cell; have e_g2 := fun o => (g2.alloc o).free
          have c_g3 := g3.cell; have f_g3 := g3.free; have a_g3 := fun o => (g3.alloc o).cell; have d_g3 := fun o o2 => ((g3.alloc o).alloc o2).cell; have e_g3 := fun o => (g3.alloc o).free
          have c_g5 := g5.cell; have f_g5 := g5.free; have a_g5 := fun o => (g5.alloc o).cell; have d_g5 := fun o o2 => ((g5.alloc o).alloc o2).cell; have e_g5 := fun o => (g5.alloc o).free
          go_wp2_with fail
          refine (BT5.out _ _ _ _ _ (H.out.below B) o5.rd om5.rd).mono ?_
          rintro e wa15 ⟨rfl, b⟩
          try clear c_g1 f_g1 a_g1 d_g1 e_g1
          replace g1 := g1.below b; have c_g1 := g1.cell; have f_g1 := g1.free; have a_g1 := fun o => (g1.alloc o).cell; have d_g1 := fun o o2 => ((g1.alloc o).alloc o2).cell; have e_g1 := fun o => (g1.alloc o).free; try clear c_g2 f_g2 a_g2 d_g2 e_g2
          replace g2 := g2.below b; have c_g2 := g2.cell; have f_g2 := g2.free; have a_g2 := fun o => (g2.alloc o).cell; have d_g2 := fun o o2 => ((g2.alloc o).alloc o2).cell; have e_g2 := fun o => (g2.alloc o).free; try clear c_g3 f_g3 a_g3 d_g3 e_g3
          replace g3 := g3.below b; have c_g3 := g3.cell; have f_g3 := g3.free; have a_g3 := fun o => (g3.alloc o).cell; have d_g3 := fun o o2 => ((g3.alloc o).alloc o2).cell; have e_g3 := fun o => (g3.alloc o).free; try clear c_g5 f_g5 a_g5 d_g5 e_g5
          replace g5 := g5.below b; have c_g5 := g5.cell; have f_g5 := g5.free; have a_g5 := fun o => (g5.alloc o).cell; have d_g5 := fun o o2 => ((g5.alloc o).alloc o2).cell; have e_g5 := fun o => (g5.alloc o).free; replace om := om.below b; replace om5 := om5.below b; replace o5 := o5.below b; replace B := B.trans (b.mono B.size); clear b
          clear o5 om5
          go_wp2_with fail
          refine (OA.out _ (H.out.below B)).mono ?_
          rintro e wa16 ⟨y4, rfl, o4, b⟩
          try clear c_g1 f_g1 a_g1 d_g1 e_g1
          replace g1 := g1.below b; have c_g1 := g1.cell; have f_g1 := g1.free; have a_g1 := fun o => (g1.alloc o).cell; have d_g1 := fun o o2 => ((g1.alloc o).alloc o2).cell; have e_g1 := fun o => (g1.alloc o).free; try clear c_g2 f_g2 a_g2 d_g2 e_g2
          replace g2 := g2.below b; have c_g2 := g2.cell; have f_g2 := g2.free; have a_g2 := fun o => (g2.alloc o).cell; have d_g2 := fun o o2 => ((g2.alloc o).alloc o2).cell; have e_g2 := fun o => (g2.alloc o).free; try clear c_g3 f_g3 a_g3 d_g3 e_g3
          replace g3 := g3.below b; have c_g3 := g3.cell; have f_g3 := g3.free; have a_g3 := fun o => (g3.alloc o).cell; have d_g3 := fun o o2 => ((g3.alloc o).alloc o2).cell; have e_g3 := fun o => (g3.alloc o).free; try clear c_g5 f_g5 a_g5 d_g5 e_g5
          replace g5 := g5.below b; have c_g5 := g5.cell; have f_g5 := g5.free; have a_g5 := fun o => (g5.alloc o).cell; have d_g5 := fun o o2 => ((g5.alloc o).alloc o2).cell; have e_g5 := fun o => (g5.alloc o).free; replace om := om.below b; replace B := B.trans (b.mono B.size); clear b
          go_upto_region 22 with (fail)
          refine wp_gen (fun Wv => Bx Wv (wa16.heap.size) (24) (#[.int .i64 s4, .int .i64 g4]) ∧ Below wa16.heap.size wa16 Wv) ⟨((Bx.at_ (by simp))), ((Below.refl _ wa16).alloc (by simp <;> omega) _)⟩ ?_
          rintro wa17 ⟨g6, b⟩
          try clear c_g1 f_g1 a_g1 d_g1 e_g1
          replace g1 := g1.below b; have c_g1 := g1.cell; have f_g1 := g1.free; have a_g1 := fun o => (g1.alloc o).cell; have d_g1 := fun o o2 => ((g1.alloc o).alloc o2).cell; have e_g1 := fun o => (g1.alloc o).free; try clear c_g2 f_g2 a_g2 d_g2 e_g2
          replace g2 := g2.below b; have c_g2 := g2.cell; have f_g2 := g2.free; have a_g2 := fun o => (g2.alloc o).cell; have d_g2 := fun o o2 => ((g2.alloc o).alloc o2).cell; have e_g2 := fun o => (g2.alloc o).free; try clear c_g3 f_g3 a_g3 d_g3 e_g3
          replace g3 := g3.below b; have c_g3 := g3.cell; have f_g3 := g3.free; have a_g3 := fun o => (g3.alloc o).cell; have d_g3 := fun o o2 => ((g3.alloc o).alloc o2).cell; have e_g3 := fun o => (g3.alloc o).free; try clear c_g5 f_g5 a_g5 d_g5 e_g5
          replace g5 := g5.below b; have c_g5 := g5.cell; have f_g5 := g5.free; have a_g5 := fun o => (g5.alloc o).cell; have d_g5 := fun o o2 => ((g5.alloc o).alloc o2).cell; have e_g5 := fun o => (g5.alloc o).free; replace om := om.below b; replace o4 := o4.below b; replace B := B.trans (b.mono B.size); clear b
          have c_g6 := g6.cell; have f_g6 := g6.free; have a_g6 := fun o => (g6.alloc o).cell; have d_g6 := fun o o2 => ((g6.alloc o).alloc o2).cell; have e_g6 := fun o => (g6.alloc o).free
          go_wp2_with fail
          refine (OMo.out _ _ _ _ om.rd).mono ?_
          rintro e wa18 ⟨tb4, ob4, sb4, rfl, om4, b⟩
          try clear c_g1 f_g1 a_g1 d_g1 e_g1
          replace g1 := g1.below b; have c_g1 := g1.cell; have f_g1 := g1.free; have a_g1 := fun o => (g1.alloc o).cell; have d_g1 := fun o o2 => ((g1.alloc o).alloc o2).cell; have e_g1 := fun o => (g1.alloc o).free; try clear c_g2 f_g2 a_g2 d_g2 e_g2
          replace g2 := g2.below b; have c_g2 := g2.cell; have f_g2 := g2.free; have a_g2 := fun o => (g2.alloc o).cell; have d_g2 := fun o o2 => ((g2.alloc o).alloc o2).cell; have e_g2 := fun o => (g2.alloc o).free; try clear c_g3 f_g3 a_g3 d_g3 e_g3
          replace g3 := g3.below b; have c_g3 := g3.cell; have f_g3 := g3.free; have a_g3 := fun o => (g3.alloc o).cell; have d_g3 := fun o o2 => ((g3.alloc o).alloc o2).cell; have e_g3 := fun o => (g3.alloc o).free; try clear c_g5 f_g5 a_g5 d_g5 e_g5
          replace g5 := g5.below b; have c_g5 := g5.cell; have f_g5 := g5.free; have a_g5 := fun o => (g5.alloc o).cell; have d_g5 := fun o o2 => ((g5.alloc o).alloc o2).cell; have e_g5 := fun o => (g5.alloc o).free; replace om := om.below b; replace o4 := o4.below b; try clear c_g6 f_g6 a_g6 d_g6 e_g6
          replace g6 := g6.below b; have c_g6 := g6.cell; have f_g6 := g6.free; have a_g6 := fun o => (g6.alloc o).cell; have d_g6 := fun o o2 => ((g6.alloc o).alloc o2).cell; have e_g6 := fun o => (g6.alloc o).free; replace B := B.trans (b.mono B.size); clear b
          obtain ⟨⟨u4A, u4n, u4c, rfl⟩, ⟨p4A, p4n, p4c, rfl⟩, ⟨q4A, q4n, q4c, rfl⟩⟩ := om4.rd.forms2
          have hlt5 := g5.lt
          have hn1 : wa18.heap.size ≠ wa9.heap.size := by omega
          have hn2 : wa9.heap.size ≠ wa18.heap.size := by omega
          go_upto_region 23 with (fail)
          refine wp_gen (fun Wv => Bx Wv wa9.heap.size 87 #[.slice u4A u4n u4c, .slice p4A p4n p4c, .slice q4A q4n q4c] ∧ Bx Wv wa16.heap.size 24 #[.int .i64 s4, .int .i64 g4] ∧ Bx Wv wa18.heap.size 24 #[.int .i64 s4, .int .i64 g4] ∧ OwnM Wv wa17.heap.size 55 (.slice u4A u4n u4c) (.slice p4A p4n p4c) (.slice q4A q4n q4c) M4 ∧ Ents Wv y4 E4 ∧ Below w.heap.size w Wv) ?_ ?_
          · have z5 := g5.put3 (.slice u4A u4n u4c) (.slice p4A p4n p4c) (.slice q4A q4n q4c)
            have z6 := g6.far3 (g6.ne g5 (by decide)) (.slice u4A u4n u4c) (.slice p4A p4n p4c) (.slice q4A q4n q4c)
            have zm := OwnM.set3 (a := .slice u4A u4n u4c) (b := .slice p4A p4n p4c) (c := .slice q4A q4n q4c) om4 g5
            have ze := own_set3 o4 g5 (by decide) (.slice u4A u4n u4c) (.slice p4A p4n p4c) (.slice q4A q4n q4c)
            have zb := below_set3 B hlt0 (.slice u4A u4n u4c) (.slice p4A p4n p4c) (.slice q4A q4n q4c)
            generalize hW3 : (((wa18.setCell ⟨wa9.heap.size, 0, none⟩ (.slice u4A u4n u4c)).setCell ⟨wa9.heap.size, 1, none⟩ (.slice p4A p4n p4c)).setCell ⟨wa9.heap.size, 2, none⟩ (.slice q4A q4n q4c)) = W3 at *
            have hsz : W3.heap.size = wa18.heap.size := by rw [← hW3]; simp [World.setCell]
            have hal : Below W3.heap.size W3 (W3.alloc (.cells #[.int .i64 s4, .int .i64 g4] 24)) := (Below.refl _ _).alloc (Nat.le_refl _) _
            refine ⟨z5.below hal, z6.below hal, ?_, zm.below hal, (OwnE.below ze hal).rd, zb.trans (hal.mono zb.size)⟩
            rw [← hsz]; exact Bx.new _ _ _
          clear c_g1 f_g1 a_g1 d_g1 e_g1 c_g2 f_g2 a_g2 d_g2 e_g2 c_g3 f_g3 a_g3 d_g3 e_g3 c_g5 f_g5 a_g5 d_g5 e_g5 c_g6 f_g6 a_g6 d_g6 e_g6 g1 g2 g3 g5 g6 om om4 o4 B
          rintro wz ⟨g5, g6, g7, om4, q4, B⟩
          have c_g5 := g5.cell; have c_g6 := g6.cell; have c_g7 := g7.cell
          go_wp2
          go_ret
          exact ⟨rfl, B⟩
end Go.Proofs.Ytiiilaojllmmiaa
