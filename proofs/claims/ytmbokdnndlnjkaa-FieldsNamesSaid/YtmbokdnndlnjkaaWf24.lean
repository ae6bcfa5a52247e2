/- The walk of the law FieldsNames. -/
import Derived.Test.YtmbokdnndlnjkaaMAw
set_option linter.unusedVariables false
set_option linter.unusedSimpArgs false
namespace Go.Proofs.Ytmbokdnndlnjkaa
open Go.RowKit L01 L02 L05 L06 L07 L13 L14 L15 L16 L18 L19

set_option maxRecDepth 100000 in
set_option maxHeartbeats 2000000 in
theorem Set24_err (v : Value) (l : List UInt64) (sl g n : Int) (x : UInt64) (r : Int) (hr : r = kiErr l sl g n) (h0 : r ≠ 0) (w : World) (h : Words w v l) :
    Calls Try.prog 13 #[v, .agg #[.int .i64 sl, .int .i64 g], .int .i64 n, .int .u64 x.toNat] w fun e w' => e = .returned (.tuple #[.slice none 0 0, .int .i64 r]) ∧ Below w.heap.size w w' := by
  have B : Below w.heap.size w w := Below.refl _ _
  have H := Lib.hid h
  obtain ⟨p, hp⟩ : ∃ p, p = kiAt l sl g n := ⟨_, rfl⟩
  obtain ⟨kd, hkd⟩ : ∃ k, k = kiK l sl g n := ⟨_, rfl⟩
  have FT := Lib.hid (fun w h => find24_any v l sl g n p kd r hp hkd hr w h)
  have n1 : (r != 0) = true := by rw [bne_iff_ne]; exact h0
  clear hr h hp hkd h0
  go_enter Try.func13, Try.ntmps13
  go_upto_region 1 with (fail)
  refine wp_gen (fun Wv => Bx Wv (w.heap.size) (35) (#[.int .i64 sl, .int .i64 g]) ∧ Below w.heap.size w Wv) ⟨((Bx.at_ (by simp))), ((Below.refl _ w).alloc (by simp <;> omega) _)⟩ ?_
  rintro wa1 ⟨g1, b⟩
  replace B := B.trans (b.mono B.size); clear b
  have c_g1 := g1.cell; have f_g1 := g1.free; have a_g1 := fun o => (g1.alloc o).cell; have d_g1 := fun o o2 => ((g1.alloc o).alloc o2).cell; have e_g1 := fun o => (g1.alloc o).free
  go_wp2_with fail
  refine (FT.out _ (H.out.below B)).mono ?_
  rintro e wa2 ⟨rfl, b⟩
  try clear c_g1 f_g1 a_g1 d_g1 e_g1
  replace g1 := g1.below b; have c_g1 := g1.cell; have f_g1 := g1.free; have a_g1 := fun o => (g1.alloc o).cell; have d_g1 := fun o o2 => ((g1.alloc o).alloc o2).cell; have e_g1 := fun o => (g1.alloc o).free; replace B := B.trans (b.mono B.size); clear b
  go_wp2
  go_ret2
  exact ⟨rfl, B⟩
/-- a word of the call's own set: what else is known stays -/
theorem set_x0 {W w0 : World} {base : Nat} {x : Value} {l : List UInt64} (o : OwnW W base 24 x l) (B : Below base w0 W) (k : Nat) (hk : k < l.length) (v : UInt64) :
    ∃ ad u, (∀ W', (Instr.indexAt 22 x (.int .i64 (k : Int))).run Try.prog W' = .ok (.pointer (some ad)) W') ∧ W.cell? ad = some u ∧ W.frozen? ad = false ∧
      (OwnW (W.setCell ad (.int .u64 v.toNat)) base 24 x (l.set k v) ∧ Below base w0 (W.setCell ad (.int .u64 v.toNat))) ∧ (∀ b y E, OwnE W b y E → OwnE (W.setCell ad (.int .u64 v.toNat)) b y E) ∧ ∀ p t cs, Bx W p t cs → 24 ≠ t → Bx (W.setCell ad (.int .u64 v.toNat)) p t cs := by
  obtain ⟨ad, i1, c1, f1, b1, e1, h1⟩ := OwnW.at_ o hk
  refine ⟨ad, _, i1, c1, f1, ⟨h1 v, B.setCell (p := ad) b1 _⟩, fun b y E h => ?_, fun p t cs h ht => ?_⟩
  · refine World.ownsRow.kept h (grown_set _ ad _) ?_
    rcases own_unlike h o (by decide) with h2 | h2
    · exact .inl h2
    · rw [e1] at h2; exact .inr h2
  · refine h.far (p := ad) (fun e => ?_) _
    rcases own_not_bx o h ht with h2 | h2
    · rw [e1] at h2; cases h2
    · exact h2 (by rw [e1, e])

set_option maxRecDepth 100000 in
set_option maxHeartbeats 32000000 in
theorem FieldsNames_walk (w : World) : Calls Try.prog 3 #[] w fun e w' => e = .returned (.bool true) ∧ Below w.heap.size w w' := by
  have B : Below w.heap.size w w := Below.refl _ _
  have AL := Lib.hid (fun w => alive24_any w)
  have OW := Lib.hid (fun w => own24_any w)
  have EX := Lib.hid (fun w => example24_any w)
  obtain ⟨l, hl⟩ : ∃ l, l = ex24 := ⟨_, rfl⟩
  obtain ⟨a, ha⟩ : ∃ a, a = w0 [2, 3] := ⟨_, rfl⟩
  obtain ⟨b, hb⟩ : ∃ b, b = w1 [2, 3] := ⟨_, rfl⟩
  obtain ⟨lf, hlf⟩ : ∃ l, l = fn0 := ⟨_, rfl⟩
  obtain ⟨l1, hl1⟩ : ∃ l, l = fn1 := ⟨_, rfl⟩
  obtain ⟨l2, hl2⟩ : ∃ l, l = fn2 := ⟨_, rfl⟩
  obtain ⟨l3, hl3⟩ : ∃ l, l = fn3 := ⟨_, rfl⟩
  obtain ⟨l9, hl9⟩ : ∃ l, l = l3.take 9 := ⟨_, rfl⟩
  obtain ⟨pm, hpm⟩ : ∃ x, x = pk ⟨2147483647, false, 0⟩ := ⟨_, rfl⟩
  obtain ⟨p1, hp1⟩ : ∃ x, x = pk ⟨1, true, 140⟩ := ⟨_, rfl⟩
  obtain ⟨z0, z1, z2, z3⟩ := fn_len
  obtain ⟨s1, s2, s3, s4⟩ := fn0_set
  obtain ⟨t1, t2, t3, t4, t5⟩ := ex24_gets
  obtain ⟨u1, u2, u3, u4, u5, u6, u7⟩ := ex24_refs
  obtain ⟨v1, v2, v3, v4⟩ := fn1_root
  have v5 := fn2_root
  have v6 := fn3_get
  have v7 := fn3_cut
  have zl := ex24_len
  have hF : lf = putW l 96 [a, b] := by rw [hlf, hl, ha, hb]; rfl
  have hL1 : l.set 143 140 = l1 := by rw [hl1, hl]; rfl
  have hL2 : fnS l1 15 = l2 := by rw [hl2, hl1]; rfl
  have hL3 : l2.set 16 1 = l3 := by rw [hl3, hl2]; rfl
  rw [← hl] at EX t1 t2 t3 t4 t5 u1 u2 u3 u4 u5 u6 u7 zl
  rw [← hlf] at z0 s1 s2 s3 s4
  rw [← hl1] at z1 v1 v2 v3 v4
  rw [← hl2] at z2 v5
  rw [← hl3] at z3 v6 v7
  rw [← hl9] at v7
  rw [← hp1] at v2
  have v8 : kiErr l9 0 1 0 = 8 := by
    have h9 : giE l9 0 1 0 = 8 := v7
    unfold giE at h9
    split at h9
    · split at h9 <;> omega
    · exact h9
  obtain ⟨x1, hx1⟩ : ∃ x, x = giV l 0 2 0 := ⟨_, rfl⟩
  obtain ⟨x2, hx2⟩ : ∃ x, x = giV l 16 1 9 := ⟨_, rfl⟩
  obtain ⟨x3, hx3⟩ : ∃ x, x = giV l 0 1 2 := ⟨_, rfl⟩
  obtain ⟨x4, hx4⟩ : ∃ x, x = giV l 0 1 1 := ⟨_, rfl⟩
  obtain ⟨x5, hx5⟩ : ∃ x, x = giV l3 16 1 9 := ⟨_, rfl⟩
  have KT := Lib.hid (fun v w h => KWriteR_any v [2, 3] a b 0 ha hb (by decide) w h)
  have TW := Lib.hid (fun v w h => Twin_any v l w h (by rw [zl]; decide))
  have S1 := Lib.hid (fun v w h => Set24_any v lf 0 1 0 18444492273895866369 [(142, 9221120237041090561)] 0 s2.symm s1.symm w h)
  have S2 := Lib.hid (fun v w h => Set24_any v lf 0 1 0 18442240474082181120 [(142, 18442240474082181120)] 0 s3.symm s1.symm w h)
  have S3 := Lib.hid (fun v w h => Set24_any v lf 0 1 0 9218868437227405313 [(142, 9221120237041090561)] 0 s4.symm s1.symm w h)
  have O1 := Lib.hid (fun v w h => one24_any v [(142, 9221120237041090561)] 0 142 9221120237041090561 true (by decide) w h)
  have O2 := Lib.hid (fun v w h => one24_any v [(142, 18442240474082181120)] 0 142 18442240474082181120 true (by decide) w h)
  have O4 := Lib.hid (fun v w h => one24_any v [(143, 0)] 0 143 0 true (by decide) w h)
  have O5 := Lib.hid (fun v w h => one24_any v [(113, p1)] 0 113 p1 true (by simp) w h)
  have G1 := Lib.hid (fun v w h => Get24_any v l 0 2 0 x1 28 hx1 t1.symm w h)
  have G2 := Lib.hid (fun v w h => Get24_any v l 16 1 9 x2 2 hx2 t2.symm w h)
  have G3 := Lib.hid (fun v w h => Get24_any v l 0 1 2 x3 2 hx3 t3.symm w h)
  have G4 := Lib.hid (fun v w h => Get24_any v l 0 1 1 x4 42 hx4 t5.symm w h)
  have S4 := Lib.hid (fun v w h => Set24_any v l 0 1 (-1) 0 _ 2 rfl t4.symm w h)
  have P1 := Lib.hid (fun v pv w h hp => SetRef24_any v pv l 0 1 0 (some (16, 1)) _ 42 rfl u1.symm w h hp)
  have P2 := Lib.hid (fun v pv w h hp => SetRef24_any v pv l 0 1 1 (some (16, 1)) _ 2 rfl u2.symm w h hp)
  have P3 := Lib.hid (fun v pv w h hp => SetRef24_any v pv l 0 1 1 (some (0, 2)) _ 28 rfl u3.symm w h hp)
  have P4 := Lib.hid (fun v pv w h hp => SetRef24_any v pv l 0 1 1 none [(143, 0)] 0 u5.symm u4.symm w h hp)
  have R1 := Lib.hid (fun v w h => Root24_any v l 0 1 0 _ 0 0 42 rfl (by rw [oiS, if_neg (by rw [u6]; decide)]) (by rw [oiG, if_neg (by rw [u6]; decide)]) u6.symm w h)
  have R2 := Lib.hid (fun v w h => Root24_any v l 0 1 1 _ 0 0 6 rfl (by rw [oiS, if_neg (by rw [u7]; decide)]) (by rw [oiG, if_neg (by rw [u7]; decide)]) u7.symm w h)
  have R3 := Lib.hid (fun v w h => Root24_any v l1 0 1 1 [(113, p1)] 1 1 0 v2.symm v3.symm v4.symm v1.symm w h)
  have R4 := Lib.hid (fun v w h => Root24_any v l2 0 1 1 _ 0 0 23 rfl (by rw [oiS, if_neg (by rw [v5]; decide)]) (by rw [oiG, if_neg (by rw [v5]; decide)]) v5.symm w h)
  have G5 := Lib.hid (fun v w h => Get24_any v l3 16 1 9 x5 50 hx5 v6.symm w h)
  have S9 := Lib.hid (fun v w h => Set24_err v l9 0 1 0 0 8 v8.symm (by decide) w h)
  have FM := Lib.hid (fun w => OfR_any ⟨2147483647, false, 0⟩ pm hpm (by decide) w)
  have F1 := Lib.hid (fun w => OfR_any ⟨1, true, 140⟩ p1 hp1 (by decide) w)
  have HF := Lib.hid hF; have HL1 := Lib.hid hL1; have HL2 := Lib.hid hL2; have HL3 := Lib.hid hL3; have HL9 := Lib.hid hl9
  have HZ := Lib.hid (And.intro zl (And.intro z1 (And.intro z2 z3)))
  have HST := Lib.hid (fun (j : Nat) => show (fnS l1 j).set (113 + j) pm = fnS l1 (j + 1) from by rw [hpm]; rfl)
  clear hl ha hb hlf hl1 hl2 hl3 hl9 hpm hp1 z0 z1 z2 z3 s1 s2 s3 s4 t1 t2 t3 t4 t5 u1 u2 u3 u4 u5 u6 u7 v1 v2 v3 v4 v5 v6 v7 v8 zl hF hL1 hL2 hL3 hx1 hx2 hx3 hx4 hx5
  go_enter Try.func3, Try.ntmps3
  go_wp2_with fail
  refine (EX.out _).mono ?_
  rintro e wa1 ⟨x0, rfl, o0, b⟩
  replace B := B.trans (b.mono B.size); clear b
  go_wp2_with fail
  refine (KT.out _ _ (lit_byts [2, 3] rfl rfl rfl (by simp))).mono ?_
  rintro e w2 ⟨rfl, b2⟩
  have hal : Below wa1.heap.size wa1 (wa1.alloc (.cells #[.int .u8 2, .int .u8 3] 5)) := (Below.refl _ _).alloc (Nat.le_refl _) _
  replace b2 := hal.trans (b2.mono hal.size)
  replace o0 := o0.below b2
  replace B := B.trans (b2.mono B.size)
  clear hal b2
  go_upto_region 3 with (fail)
  refine wp_gen (fun Wv => Bx Wv (w2.heap.size) (25) (#[.int .u64 a.toNat, .int .u64 b.toNat]) ∧ Below w2.heap.size w2 Wv) ⟨((Bx.at_ (by simp))), ((Below.refl _ w2).alloc (by simp <;> omega) _)⟩ ?_
  rintro wa2 ⟨g4, b⟩
  replace o0 := o0.below b; replace B := B.trans (b.mono B.size); clear b
  have c_g4 := g4.cell; have f_g4 := g4.free; have a_g4 := fun o => (g4.alloc o).cell; have d_g4 := fun o o2 => ((g4.alloc o).alloc o2).cell; have e_g4 := fun o => (g4.alloc o).free
  have HQ0 := Lib.hid (And.intro o0 B)
  go_wp2_with fail
  refine (TW.out _ _ o0.rd).mono ?_
  rintro e w3 ⟨xf, rfl, of, b3⟩
  have g4' := g4.below b3
  clear o0 B g4 c_g4 f_g4 a_g4 d_g4 e_g4
  obtain ⟨d1, sl1, cut1⟩ := own_cut2 (P := Try.prog) of Try.underlying22 one_u64 (lo := 96) (hi := 98) (by omega) (by rw [HZ.out.1]; omega)
  have sl1' : ∀ W, (Instr.sliceAt 22 xf (some (.int .i64 96)) (some (.int .i64 98)) none).run Try.prog W = .ok d1 W := sl1
  clear sl1
  go_upto_region 4 with (fail)
  refine wp_region_qtail 3 (by kernel_rfl) (by kernel_rfl) ?_
  simp only [List.take_succ_cons, List.take_zero, List.drop_succ_cons, List.drop_zero]
  iterate 3 (go_big_quiet_step (fail))
  refine wpQuiet_nil ?_
  go_wp2_with fail
  have ofd : OwnW w3.drew wa2.heap.size 24 xf l := of
  have g4d : Bx w3.drew w2.heap.size 25 #[.int .u64 a.toNat, .int .u64 b.toNat] := g4'
  obtain ⟨w4, x4', hrun, o4, B4, gg4⟩ := copyW (l := l) (m := [a, b]) (a := 96) ofd cut1 (arr_words g4d) rfl (by rw [HZ.out.1]; decide) b3.drew (Nat.le_refl _)
  rw [hrun, Result.andThen_ok]
  rw [← HF.out] at o4
  have rf := o4.rd
  have o0 := HQ0.out.1.below B4
  have B := HQ0.out.2.trans (B4.mono HQ0.out.2.size)
  clear hrun o4 B4 gg4 ofd g4d of g4' b3 cut1 sl1' HQ0
  go_wp2_with fail
  refine (OW.out _).mono ?_
  rintro e wa3 ⟨rfl, b⟩
  replace o0 := o0.below b; replace rf := rf.below b; replace B := B.trans (b.mono B.size); clear b
  go_wp2_with fail
  refine (S1.out _ _ rf).mono ?_
  rintro e wa4 ⟨y5, rfl, qy5, b⟩
  replace o0 := o0.below b; replace rf := rf.below b; replace B := B.trans (b.mono B.size); clear b
  go_wp2_with fail
  refine (OW.out _).mono ?_
  rintro e wa5 ⟨rfl, b⟩
  replace o0 := o0.below b; replace rf := rf.below b; replace qy5 := qy5.below b; replace B := B.trans (b.mono B.size); clear b
  go_wp2_with fail
  refine (S2.out _ _ rf).mono ?_
  rintro e wa6 ⟨y7, rfl, qy7, b⟩
  replace o0 := o0.below b; replace rf := rf.below b; replace qy5 := qy5.below b; replace B := B.trans (b.mono B.size); clear b
  go_wp2_with fail
  refine (OW.out _).mono ?_
  rintro e wa7 ⟨rfl, b⟩
  replace o0 := o0.below b; replace rf := rf.below b; replace qy5 := qy5.below b; replace qy7 := qy7.below b; replace B := B.trans (b.mono B.size); clear b
  go_wp2_with fail
  refine (S3.out _ _ rf).mono ?_
  rintro e wa8 ⟨y9, rfl, qy9, b⟩
  replace o0 := o0.below b; replace rf := rf.below b; replace qy5 := qy5.below b; replace qy7 := qy7.below b; replace B := B.trans (b.mono B.size); clear b
  have r5 := qy5.rd; have r7 := qy7.rd; have r9 := qy9.rd
  clear qy5 qy7 qy9 rf
  go_wp2_with fail
  refine (O1.out _ _ r5).mono ?_
  rintro e wa9 ⟨rfl, b⟩
  replace o0 := o0.below b; replace r5 := r5.below b; replace r7 := r7.below b; replace r9 := r9.below b; replace B := B.trans (b.mono B.size); clear b
  go_wp2_with fail
  refine (O2.out _ _ r7).mono ?_
  rintro e wa10 ⟨rfl, b⟩
  replace o0 := o0.below b; replace r5 := r5.below b; replace r7 := r7.below b; replace r9 := r9.below b; replace B := B.trans (b.mono B.size); clear b
  go_wp2_with fail
  refine (O1.out _ _ r9).mono ?_
  rintro e wa11 ⟨rfl, b⟩
  replace o0 := o0.below b; replace r5 := r5.below b; replace r7 := r7.below b; replace r9 := r9.below b; replace B := B.trans (b.mono B.size); clear b
  clear r5 r7 r9
  go_upto_region 10 with (fail)
  refine wp_gen (fun Wv => Bx Wv (wa11.heap.size) (35) (#[.int .i64 0, .int .i64 2]) ∧ Bx Wv (wa11.heap.size + 1) (35) (#[.int .i64 16, .int .i64 1]) ∧ Below wa11.heap.size wa11 Wv) ⟨(((Bx.at_ (by simp)).alloc _)), ((Bx.at_ (by simp))), (((Below.refl _ wa11).alloc (by simp <;> omega) _).alloc (by simp <;> omega) _)⟩ ?_
  rintro wa12 ⟨g1, g2, b⟩
  replace o0 := o0.below b; replace B := B.trans (b.mono B.size); clear b
  have c_g1 := g1.cell; have f_g1 := g1.free; have a_g1 := fun o => (g1.alloc o).cell; have d_g1 := fun o o2 => ((g1.alloc o).alloc o2).cell; have e_g1 := fun o => (g1.alloc o).free
  have c_g2 := g2.cell; have f_g2 := g2.free; have a_g2 := fun o => (g2.alloc o).cell; have d_g2 := fun o o2 => ((g2.alloc o).alloc o2).cell; have e_g2 := fun o => (g2.alloc o).free
  go_wp2_with fail
  refine (G1.out _ _ o0.rd).mono ?_
  rintro e wa13 ⟨rfl, b⟩
  replace o0 := o0.below b; try clear c_g1 f_g1 a_g1 d_g1 e_g1
  replace g1 := g1.below b; have c_g1 := g1.cell; have f_g1 := g1.free; have a_g1 := fun o => (g1.alloc o).cell; have d_g1 := fun o o2 => ((g1.alloc o).alloc o2).cell; have e_g1 := fun o => (g1.alloc o).free; try clear c_g2 f_g2 a_g2 d_g2 e_g2
  replace g2 := g2.below b; have c_g2 := g2.cell; have f_g2 := g2.free; have a_g2 := fun o => (g2.alloc o).cell; have d_g2 := fun o o2 => ((g2.alloc o).alloc o2).cell; have e_g2 := fun o => (g2.alloc o).free; replace B := B.trans (b.mono B.size); clear b
  go_wp2_with fail
  refine (G2.out _ _ o0.rd).mono ?_
  rintro e wa14 ⟨rfl, b⟩
  replace o0 := o0.below b; try clear c_g1 f_g1 a_g1 d_g1 e_g1
  replace g1 := g1.below b; have c_g1 := g1.cell; have f_g1 := g1.free; have a_g1 := fun o => (g1.alloc o).cell; have d_g1 := fun o o2 => ((g1.alloc o).alloc o2).cell; have e_g1 := fun o => (g1.alloc o).free; try clear c_g2 f_g2 a_g2 d_g2 e_g2
  replace g2 := g2.below b; have c_g2 := g2.cell; have f_g2 := g2.free; have a_g2 := fun o => (g2.alloc o).cell; have d_g2 := fun o o2 => ((g2.alloc o).alloc o2).cell; have e_g2 := fun o => (g2.alloc o).free; replace B := B.trans (b.mono B.size); clear b
  go_wp2_with fail
  refine (OW.out _).mono ?_
  rintro e wa15 ⟨rfl, b⟩
  replace o0 := o0.below b; try clear c_g1 f_g1 a_g1 d_g1 e_g1
  replace g1 := g1.below b; have c_g1 := g1.cell; have f_g1 := g1.free; have a_g1 := fun o => (g1.alloc o).cell; have d_g1 := fun o o2 => ((g1.alloc o).alloc o2).cell; have e_g1 := fun o => (g1.alloc o).free; try clear c_g2 f_g2 a_g2 d_g2 e_g2
  replace g2 := g2.below b; have c_g2 := g2.cell; have f_g2 := g2.free; have a_g2 := fun o => (g2.alloc o).cell; have d_g2 := fun o o2 => ((g2.alloc o).alloc o2).cell; have e_g2 := fun o => (g2.alloc o).free; replace B := B.trans (b.mono B.size); clear b
  go_wp2_with fail
  refine (G3.out _ _ o0.rd).mono ?_
  rintro e wa16 ⟨rfl, b⟩
  replace o0 := o0.below b; try clear c_g1 f_g1 a_g1 d_g1 e_g1
  replace g1 := g1.below b; have c_g1 := g1.cell; have f_g1 := g1.free; have a_g1 := fun o => (g1.alloc o).cell; have d_g1 := fun o o2 => ((g1.alloc o).alloc o2).cell; have e_g1 := fun o => (g1.alloc o).free; try clear c_g2 f_g2 a_g2 d_g2 e_g2
  replace g2 := g2.below b; have c_g2 := g2.cell; have f_g2 := g2.free; have a_g2 := fun o => (g2.alloc o).cell; have d_g2 := fun o o2 => ((g2.alloc o).alloc o2).cell; have e_g2 := fun o => (g2.alloc o).free; replace B := B.trans (b.mono B.size); clear b
  go_wp2_with fail
  refine (OW.out _).mono ?_
  rintro e wa17 ⟨rfl, b⟩
  replace o0 := o0.below b; try clear c_g1 f_g1 a_g1 d_g1 e_g1
  replace g1 := g1.below b; have c_g1 := g1.cell; have f_g1 := g1.free; have a_g1 := fun o => (g1.alloc o).cell; have d_g1 := fun o o2 => ((g1.alloc o).alloc o2).cell; have e_g1 := fun o => (g1.alloc o).free; try clear c_g2 f_g2 a_g2 d_g2 e_g2
  replace g2 := g2.below b; have c_g2 := g2.cell; have f_g2 := g2.free; have a_g2 := fun o => (g2.alloc o).cell; have d_g2 := fun o o2 => ((g2.alloc o).alloc o2).cell; have e_g2 := fun o => (g2.alloc o).free; replace B := B.trans (b.mono B.size); clear b
  go_wp2_with fail
  refine (S4.out _ _ o0.rd).mono ?_
  rintro e wa18 ⟨y13, rfl, q13, b⟩
  replace o0 := o0.below b; try clear c_g1 f_g1 a_g1 d_g1 e_g1
  replace g1 := g1.below b; have c_g1 := g1.cell; have f_g1 := g1.free; have a_g1 := fun o => (g1.alloc o).cell; have d_g1 := fun o o2 => ((g1.alloc o).alloc o2).cell; have e_g1 := fun o => (g1.alloc o).free; try clear c_g2 f_g2 a_g2 d_g2 e_g2
  replace g2 := g2.below b; have c_g2 := g2.cell; have f_g2 := g2.free; have a_g2 := fun o => (g2.alloc o).cell; have d_g2 := fun o o2 => ((g2.alloc o).alloc o2).cell; have e_g2 := fun o => (g2.alloc o).free; replace B := B.trans (b.mono B.size); clear b
  clear q13
  go_wp2_with fail
  refine (OW.out _).mono ?_
  rintro e wa19 ⟨rfl, b⟩
  replace o0 := o0.below b; try clear c_g1 f_g1 a_g1 d_g1 e_g1
  replace g1 := g1.below b; have c_g1 := g1.cell; have f_g1 := g1.free; have a_g1 := fun o => (g1.alloc o).cell; have d_g1 := fun o o2 => ((g1.alloc o).alloc o2).cell; have e_g1 := fun o => (g1.alloc o).free; try clear c_g2 f_g2 a_g2 d_g2 e_g2
  replace g2 := g2.below b; have c_g2 := g2.cell; have f_g2 := g2.free; have a_g2 := fun o => (g2.alloc o).cell; have d_g2 := fun o o2 => ((g2.alloc o).alloc o2).cell; have e_g2 := fun o => (g2.alloc o).free; replace B := B.trans (b.mono B.size); clear b
  go_wp2_with fail
  refine (G4.out _ _ o0.rd).mono ?_
  rintro e wa20 ⟨rfl, b⟩
  replace o0 := o0.below b; try clear c_g1 f_g1 a_g1 d_g1 e_g1
  replace g1 := g1.below b; have c_g1 := g1.cell; have f_g1 := g1.free; have a_g1 := fun o => (g1.alloc o).cell; have d_g1 := fun o o2 => ((g1.alloc o).alloc o2).cell; have e_g1 := fun o => (g1.alloc o).free; try clear c_g2 f_g2 a_g2 d_g2 e_g2
  replace g2 := g2.below b; have c_g2 := g2.cell; have f_g2 := g2.free; have a_g2 := fun o => (g2.alloc o).cell; have d_g2 := fun o o2 => ((g2.alloc o).alloc o2).cell; have e_g2 := fun o => (g2.alloc o).free; replace B := B.trans (b.mono B.size); clear b
  go_wp2_with fail
  refine (OW.out _).mono ?_
  rintro e wa21 ⟨rfl, b⟩
  replace o0 := o0.below b; try clear c_g1 f_g1 a_g1 d_g1 e_g1
  replace g1 := g1.below b; have c_g1 := g1.cell; have f_g1 := g1.free; have a_g1 := fun o => (g1.alloc o).cell; have d_g1 := fun o o2 => ((g1.alloc o).alloc o2).cell; have e_g1 := fun o => (g1.alloc o).free; try clear c_g2 f_g2 a_g2 d_g2 e_g2
  replace g2 := g2.below b; have c_g2 := g2.cell; have f_g2 := g2.free; have a_g2 := fun o => (g2.alloc o).cell; have d_g2 := fun o o2 => ((g2.alloc o).alloc o2).cell; have e_g2 := fun o => (g2.alloc o).free; replace B := B.trans (b.mono B.size); clear b
  go_wp2_with fail
  refine (P1.out _ _ _ o0.rd ⟨_, rfl, g2⟩).mono ?_
  rintro e wa22 ⟨y15, rfl, q15, b⟩
  replace o0 := o0.below b; try clear c_g1 f_g1 a_g1 d_g1 e_g1
  replace g1 := g1.below b; have c_g1 := g1.cell; have f_g1 := g1.free; have a_g1 := fun o => (g1.alloc o).cell; have d_g1 := fun o o2 => ((g1.alloc o).alloc o2).cell; have e_g1 := fun o => (g1.alloc o).free; try clear c_g2 f_g2 a_g2 d_g2 e_g2
  replace g2 := g2.below b; have c_g2 := g2.cell; have f_g2 := g2.free; have a_g2 := fun o => (g2.alloc o).cell; have d_g2 := fun o o2 => ((g2.alloc o).alloc o2).cell; have e_g2 := fun o => (g2.alloc o).free; replace B := B.trans (b.mono B.size); clear b
  clear q15
  go_wp2_with fail
  refine (OW.out _).mono ?_
  rintro e wa23 ⟨rfl, b⟩
  replace o0 := o0.below b; try clear c_g1 f_g1 a_g1 d_g1 e_g1
  replace g1 := g1.below b; have c_g1 := g1.cell; have f_g1 := g1.free; have a_g1 := fun o => (g1.alloc o).cell; have d_g1 := fun o o2 => ((g1.alloc o).alloc o2).cell; have e_g1 := fun o => (g1.alloc o).free; try clear c_g2 f_g2 a_g2 d_g2 e_g2
  replace g2 := g2.below b; have c_g2 := g2.cell; have f_g2 := g2.free; have a_g2 := fun o => (g2.alloc o).cell; have d_g2 := fun o o2 => ((g2.alloc o).alloc o2).cell; have e_g2 := fun o => (g2.alloc o).free; replace B := B.trans (b.mono B.size); clear b
  go_wp2_with fail
  refine (P2.out _ _ _ o0.rd ⟨_, rfl, g2⟩).mono ?_
  rintro e wa24 ⟨y16, rfl, q16, b⟩
  replace o0 := o0.below b; try clear c_g1 f_g1 a_g1 d_g1 e_g1
  replace g1 := g1.below b; have c_g1 := g1.cell; have f_g1 := g1.free; have a_g1 := fun o => (g1.alloc o).cell; have d_g1 := fun o o2 => ((g1.alloc o).alloc o2).cell; have e_g1 := fun o => (g1.alloc o).free; try clear c_g2 f_g2 a_g2 d_g2 e_g2
  replace g2 := g2.below b; have c_g2 := g2.cell; have f_g2 := g2.free; have a_g2 := fun o => (g2.alloc o).cell; have d_g2 := fun o o2 => ((g2.alloc o).alloc o2).cell; have e_g2 := fun o => (g2.alloc o).free; replace B := B.trans (b.mono B.size); clear b
  clear q16
  go_wp2_with fail
  refine (OW.out _).mono ?_
  rintro e wa25 ⟨rfl, b⟩
  replace o0 := o0.below b; try clear c_g1 f_g1 a_g1 d_g1 e_g1
  replace g1 := g1.below b; have c_g1 := g1.cell; have f_g1 := g1.free; have a_g1 := fun o => (g1.alloc o).cell; have d_g1 := fun o o2 => ((g1.alloc o).alloc o2).cell; have e_g1 := fun o => (g1.alloc o).free; try clear c_g2 f_g2 a_g2 d_g2 e_g2
  replace g2 := g2.below b; have c_g2 := g2.cell; have f_g2 := g2.free; have a_g2 := fun o => (g2.alloc o).cell; have d_g2 := fun o o2 => ((g2.alloc o).alloc o2).cell; have e_g2 := fun o => (g2.alloc o).free; replace B := B.trans (b.mono B.size); clear b
  go_wp2_with fail
  refine (P3.out _ _ _ o0.rd ⟨_, rfl, g1⟩).mono ?_
  rintro e wa26 ⟨y17, rfl, q17, b⟩
  replace o0 := o0.below b; try clear c_g1 f_g1 a_g1 d_g1 e_g1
  replace g1 := g1.below b; have c_g1 := g1.cell; have f_g1 := g1.free; have a_g1 := fun o => (g1.alloc o).cell; have d_g1 := fun o o2 => ((g1.alloc o).alloc o2).cell; have e_g1 := fun o => (g1.alloc o).free; try clear c_g2 f_g2 a_g2 d_g2 e_g2
  replace g2 := g2.below b; have c_g2 := g2.cell; have f_g2 := g2.free; have a_g2 := fun o => (g2.alloc o).cell; have d_g2 := fun o o2 => ((g2.alloc o).alloc o2).cell; have e_g2 := fun o => (g2.alloc o).free; replace B := B.trans (b.mono B.size); clear b
  clear q17
  go_wp2_with fail
  refine (OW.out _).mono ?_
  rintro e wa27 ⟨rfl, b⟩
  replace o0 := o0.below b; try clear c_g1 f_g1 a_g1 d_g1 e_g1
  replace g1 := g1.below b; have c_g1 := g1.cell; have f_g1 := g1.free; have a_g1 := fun o => (g1.alloc o).cell; have d_g1 := fun o o2 => ((g1.alloc o).alloc o2).cell; have e_g1 := fun o => (g1.alloc o).free; try clear c_g2 f_g2 a_g2 d_g2 e_g2
  replace g2 := g2.below b; have c_g2 := g2.cell; have f_g2 := g2.free; have a_g2 := fun o => (g2.alloc o).cell; have d_g2 := fun o o2 => ((g2.alloc o).alloc o2).cell; have e_g2 := fun o => (g2.alloc o).free; replace B := B.trans (b.mono B.size); clear b
  go_wp2_with fail
  refine (P4.out _ _ _ o0.rd rfl).mono ?_
  rintro e wa28 ⟨y18, rfl, q18, b⟩
  replace o0 := o0.below b; try clear c_g1 f_g1 a_g1 d_g1 e_g1
  replace g1 := g1.below b; have c_g1 := g1.cell; have f_g1 := g1.free; have a_g1 := fun o => (g1.alloc o).cell; have d_g1 := fun o o2 => ((g1.alloc o).alloc o2).cell; have e_g1 := fun o => (g1.alloc o).free; try clear c_g2 f_g2 a_g2 d_g2 e_g2
  replace g2 := g2.below b; have c_g2 := g2.cell; have f_g2 := g2.free; have a_g2 := fun o => (g2.alloc o).cell; have d_g2 := fun o o2 => ((g2.alloc o).alloc o2).cell; have e_g2 := fun o => (g2.alloc o).free; replace B := B.trans (b.mono B.size); clear b
  go_wp2_with fail
  refine (OW.out _).mono ?_
  rintro e wa29 ⟨rfl, b⟩
  replace o0 := o0.below b; try clear c_g1 f_g1 a_g1 d_g1 e_g1
  replace g1 := g1.below b; have c_g1 := g1.cell; have f_g1 := g1.free; have a_g1 := fun o => (g1.alloc o).cell; have d_g1 := fun o o2 => ((g1.alloc o).alloc o2).cell; have e_g1 := fun o => (g1.alloc o).free; try clear c_g2 f_g2 a_g2 d_g2 e_g2
  replace g2 := g2.below b; have c_g2 := g2.cell; have f_g2 := g2.free; have a_g2 := fun o => (g2.alloc o).cell; have d_g2 := fun o o2 => ((g2.alloc o).alloc o2).cell; have e_g2 := fun o => (g2.alloc o).free; replace q18 := q18.below b; replace B := B.trans (b.mono B.size); clear b
  go_wp2_with fail
  refine (R1.out _ _ o0.rd).mono ?_
  rintro e wa30 ⟨y19, rfl, q19, b⟩
  replace o0 := o0.below b; try clear c_g1 f_g1 a_g1 d_g1 e_g1
  replace g1 := g1.below b; have c_g1 := g1.cell; have f_g1 := g1.free; have a_g1 := fun o => (g1.alloc o).cell; have d_g1 := fun o o2 => ((g1.alloc o).alloc o2).cell; have e_g1 := fun o => (g1.alloc o).free; try clear c_g2 f_g2 a_g2 d_g2 e_g2
  replace g2 := g2.below b; have c_g2 := g2.cell; have f_g2 := g2.free; have a_g2 := fun o => (g2.alloc o).cell; have d_g2 := fun o o2 => ((g2.alloc o).alloc o2).cell; have e_g2 := fun o => (g2.alloc o).free; replace q18 := q18.below b; replace B := B.trans (b.mono B.size); clear b
  clear q19
  go_upto_region 20 with (fail)
  refine wp_gen (fun Wv => Below wa30.heap.size wa30 Wv) ((Below.refl _ wa30).alloc (by simp <;> omega) _) ?_
  intro wa31 b
  replace o0 := o0.below b; try clear c_g1 f_g1 a_g1 d_g1 e_g1
  replace g1 := g1.below b; have c_g1 := g1.cell; have f_g1 := g1.free; have a_g1 := fun o => (g1.alloc o).cell; have d_g1 := fun o o2 => ((g1.alloc o).alloc o2).cell; have e_g1 := fun o => (g1.alloc o).free; try clear c_g2 f_g2 a_g2 d_g2 e_g2
  replace g2 := g2.below b; have c_g2 := g2.cell; have f_g2 := g2.free; have a_g2 := fun o => (g2.alloc o).cell; have d_g2 := fun o o2 => ((g2.alloc o).alloc o2).cell; have e_g2 := fun o => (g2.alloc o).free; replace q18 := q18.below b; replace B := B.trans (b.mono B.size); clear b
  go_wp2_with fail
  refine (OW.out _).mono ?_
  rintro e wa32 ⟨rfl, b⟩
  replace o0 := o0.below b; try clear c_g1 f_g1 a_g1 d_g1 e_g1
  replace g1 := g1.below b; have c_g1 := g1.cell; have f_g1 := g1.free; have a_g1 := fun o => (g1.alloc o).cell; have d_g1 := fun o o2 => ((g1.alloc o).alloc o2).cell; have e_g1 := fun o => (g1.alloc o).free; try clear c_g2 f_g2 a_g2 d_g2 e_g2
  replace g2 := g2.below b; have c_g2 := g2.cell; have f_g2 := g2.free; have a_g2 := fun o => (g2.alloc o).cell; have d_g2 := fun o o2 => ((g2.alloc o).alloc o2).cell; have e_g2 := fun o => (g2.alloc o).free; replace q18 := q18.below b; replace B := B.trans (b.mono B.size); clear b
  go_wp2_with fail
  refine (R2.out _ _ o0.rd).mono ?_
  rintro e wa33 ⟨y20, rfl, q20, b⟩
  replace o0 := o0.below b; try clear c_g1 f_g1 a_g1 d_g1 e_g1
  replace g1 := g1.below b; have c_g1 := g1.cell; have f_g1 := g1.free; have a_g1 := fun o => (g1.alloc o).cell; have d_g1 := fun o o2 => ((g1.alloc o).alloc o2).cell; have e_g1 := fun o => (g1.alloc o).free; try clear c_g2 f_g2 a_g2 d_g2 e_g2
  replace g2 := g2.below b; have c_g2 := g2.cell; have f_g2 := g2.free; have a_g2 := fun o => (g2.alloc o).cell; have d_g2 := fun o o2 => ((g2.alloc o).alloc o2).cell; have e_g2 := fun o => (g2.alloc o).free; replace q18 := q18.below b; replace B := B.trans (b.mono B.size); clear b
  clear q20
  go_upto_region 21 with (fail)
  refine wp_gen (fun Wv => Below wa33.heap.size wa33 Wv) ((Below.refl _ wa33).alloc (by simp <;> omega) _) ?_
  intro wa34 b
  replace o0 := o0.below b; try clear c_g1 f_g1 a_g1 d_g1 e_g1
  replace g1 := g1.below b; have c_g1 := g1.cell; have f_g1 := g1.free; have a_g1 := fun o => (g1.alloc o).cell; have d_g1 := fun o o2 => ((g1.alloc o).alloc o2).cell; have e_g1 := fun o => (g1.alloc o).free; try clear c_g2 f_g2 a_g2 d_g2 e_g2
  replace g2 := g2.below b; have c_g2 := g2.cell; have f_g2 := g2.free; have a_g2 := fun o => (g2.alloc o).cell; have d_g2 := fun o o2 => ((g2.alloc o).alloc o2).cell; have e_g2 := fun o => (g2.alloc o).free; replace q18 := q18.below b; replace B := B.trans (b.mono B.size); clear b
  clear c_g1 f_g1 a_g1 d_g1 e_g1
  clear g1
  obtain ⟨ad, u0, ia, ca, fa, hset, hE, hB⟩ := set_x0 o0 B 143 (by rw [HZ.out.1]; omega) 140
  have ia' : ∀ W', (Instr.indexAt 22 x0 (.int .i64 143)).run Try.prog W' = .ok (.pointer (some ad)) W' := ia
  have HP := Lib.hid (And.intro hset (And.intro (hE _ _ _ q18) (hB _ _ _ g2 (by decide))))
  clear c_g2 f_g2 a_g2 d_g2 e_g2
  clear ia hset hE hB q18 g2 o0 B
  go_upto_region 22 with (fail)
  clear ca fa ia'
  refine wp_gen (fun W => OwnW W w.heap.size 24 x0 l1 ∧ (∃ b, OwnE W b y18 [(143, 0)]) ∧ (∃ p, p = wa11.heap.size + 1 ∧ Bx W p 35 #[.int .i64 16, .int .i64 1]) ∧ Below w.heap.size w W) ⟨by rw [← HL1.out]; exact HP.out.1.1, ⟨_, HP.out.2.1⟩, ⟨_, rfl, HP.out.2.2⟩, HP.out.1.2⟩ ?_
  clear HP
  rintro w5 ⟨o0, ⟨bq, q18⟩, ⟨p2, hp2, g2⟩, B⟩
  rw [← hp2]
  clear hp2
  have c_g2 := g2.cell; have f_g2 := g2.free; have a_g2 := fun o => (g2.alloc o).cell; have d_g2 := fun o o2 => ((g2.alloc o).alloc o2).cell; have e_g2 := fun o => (g2.alloc o).free
  go_wp2_with fail
  refine (OW.out _).mono ?_
  rintro e wa35 ⟨rfl, b⟩
  replace o0 := o0.below b; replace q18 := q18.below b; try clear c_g2 f_g2 a_g2 d_g2 e_g2
  replace g2 := g2.below b; have c_g2 := g2.cell; have f_g2 := g2.free; have a_g2 := fun o => (g2.alloc o).cell; have d_g2 := fun o o2 => ((g2.alloc o).alloc o2).cell; have e_g2 := fun o => (g2.alloc o).free; replace B := B.trans (b.mono B.size); clear b
  have hz6 := B.size
  go_wp2_with fail
  refine (R3.out _ _ o0.rd).mono ?_
  rintro e wa36 ⟨y22, rfl, q22, b⟩
  replace o0 := o0.below b; replace q18 := q18.below b; try clear c_g2 f_g2 a_g2 d_g2 e_g2
  replace g2 := g2.below b; have c_g2 := g2.cell; have f_g2 := g2.free; have a_g2 := fun o => (g2.alloc o).cell; have d_g2 := fun o o2 => ((g2.alloc o).alloc o2).cell; have e_g2 := fun o => (g2.alloc o).free; replace B := B.trans (b.mono B.size); clear b
  go_upto_region 23 with (fail)
  refine wp_gen (fun Wv => Bx Wv (wa36.heap.size) (35) (#[.int .i64 1, .int .i64 1]) ∧ Below wa36.heap.size wa36 Wv) ⟨((Bx.at_ (by simp))), ((Below.refl _ wa36).alloc (by simp <;> omega) _)⟩ ?_
  rintro wa37 ⟨g9, b⟩
  replace o0 := o0.below b; replace q18 := q18.below b; try clear c_g2 f_g2 a_g2 d_g2 e_g2
  replace g2 := g2.below b; have c_g2 := g2.cell; have f_g2 := g2.free; have a_g2 := fun o => (g2.alloc o).cell; have d_g2 := fun o o2 => ((g2.alloc o).alloc o2).cell; have e_g2 := fun o => (g2.alloc o).free; replace q22 := q22.below b; replace B := B.trans (b.mono B.size); clear b
  have c_g9 := g9.cell; have f_g9 := g9.free; have a_g9 := fun o => (g9.alloc o).cell; have d_g9 := fun o o2 => ((g9.alloc o).alloc o2).cell; have e_g9 := fun o => (g9.alloc o).free
  generalize hp9 : wa36.heap.size = p9 at *
  clear hp9
  have HQ := Lib.hid (And.intro o0 (And.intro q18 (And.intro q22 (And.intro g2 (And.intro g9 B)))))
  clear c_g2 f_g2 a_g2 d_g2 e_g2 c_g9 f_g9 a_g9 d_g9 e_g9
  clear o0 q18 q22 g2 g9 B
  go_wp2
  go_loopg [41] 15 (fun g i wr => ∃ j : Nat, 1 ≤ j ∧ j ≤ 16 ∧ g = 16 - j ∧ i = .int .i64 j ∧ Hid (OwnW wr w.heap.size 24 x0 (fnS l1 (j - 1)) ∧ OwnE wr bq y18 [(143, 0)] ∧ OwnE wr wa35.heap.size y22 [(113, p1)] ∧ Bx wr p2 35 #[.int .i64 16, .int .i64 1] ∧ Bx wr p9 35 #[.int .i64 1, .int .i64 1] ∧ Below w.heap.size w wr))
  case atStart => exact ⟨1, by omega, by omega, by omega, rfl, HQ⟩
  case round =>
    clear HQ
    obtain ⟨j, hj1, hj, rfl, rfl, hh⟩ := hrel
    obtain ⟨o0, q18, q22, g2, g9, B⟩ := hh.out
    clear hh
    by_cases hlt : j < 16
    · skip
      go_wp2_with fail
      refine (FM.out _).mono ?_
      rintro e wa38 ⟨rfl, b⟩
      replace o0 := o0.below b; replace q18 := q18.below b; replace q22 := q22.below b; try clear c_g2 f_g2 a_g2 d_g2 e_g2
      replace g2 := g2.below b; have c_g2 := g2.cell; have f_g2 := g2.free; have a_g2 := fun o => (g2.alloc o).cell; have d_g2 := fun o o2 => ((g2.alloc o).alloc o2).cell; have e_g2 := fun o => (g2.alloc o).free; try clear c_g9 f_g9 a_g9 d_g9 e_g9
      replace g9 := g9.below b; have c_g9 := g9.cell; have f_g9 := g9.free; have a_g9 := fun o => (g9.alloc o).cell; have d_g9 := fun o o2 => ((g9.alloc o).alloc o2).cell; have e_g9 := fun o => (g9.alloc o).free; replace B := B.trans (b.mono B.size); clear b
      have hlen : (fnS l1 (j - 1)).length = 256 := by rw [fnS_len, HZ.out.2.1]
      obtain ⟨ad, u0, ia, ca, fa, hset, hE, hB⟩ := set_x0 o0 B (112 + j) (by rw [hlen]; omega) pm
      have ia' : ∀ W', (Instr.indexAt 22 x0 (.int .i64 (112 + (j : Int)))).run Try.prog W' = .ok (.pointer (some ad)) W' := fun W' => by
        have := ia W'
        rw [show ((112 + j : Nat) : Int) = 112 + (j : Int) by omega] at this
        exact this
      have wj : IntKind.i64.wrap (112 + (j : Int)) = 112 + (j : Int) := IntWalk.i64_in _ (by omega)
      have hst : (fnS l1 (j - 1)).set (112 + j) pm = fnS l1 (j + 1 - 1) := by
        have := HST.out (j - 1)
        rw [show 113 + (j - 1) = 112 + j by omega, show j - 1 + 1 = j + 1 - 1 by omega] at this
        exact this
      rw [hst] at hset
      have HR := Lib.hid (And.intro hset.1 (And.intro (hE _ _ _ q18) (And.intro (hE _ _ _ q22) (And.intro (hB _ _ _ g2 (by decide)) (And.intro (hB _ _ _ g9 (by decide)) hset.2)))))
      clear c_g2 f_g2 a_g2 d_g2 e_g2 c_g9 f_g9 a_g9 d_g9 e_g9
      clear o0 q18 q22 g2 g9 B hset hE hB ia hlen hst
      go_wp2
      go_roundg (16 - (j + 1))
      case measure => omega
      case rel => exact ⟨j + 1, by omega, by omega, rfl, by go_num, HR⟩
    · obtain rfl : j = 16 := by omega
      replace o0 : OwnW wr w.heap.size 24 x0 l2 := by rw [← HL2.out]; exact o0
      have c_g2 := g2.cell; have f_g2 := g2.free; have a_g2 := fun o => (g2.alloc o).cell; have d_g2 := fun o o2 => ((g2.alloc o).alloc o2).cell; have e_g2 := fun o => (g2.alloc o).free
      have c_g9 := g9.cell; have f_g9 := g9.free; have a_g9 := fun o => (g9.alloc o).cell; have d_g9 := fun o o2 => ((g9.alloc o).alloc o2).cell; have e_g9 := fun o => (g9.alloc o).free
      clear hj1 hj hlt
      go_wp2_with fail
      refine (OW.out _).mono ?_
      rintro e wa39 ⟨rfl, b⟩
      replace o0 := o0.below b; replace q18 := q18.below b; replace q22 := q22.below b; try clear c_g2 f_g2 a_g2 d_g2 e_g2
      replace g2 := g2.below b; have c_g2 := g2.cell; have f_g2 := g2.free; have a_g2 := fun o => (g2.alloc o).cell; have d_g2 := fun o o2 => ((g2.alloc o).alloc o2).cell; have e_g2 := fun o => (g2.alloc o).free; try clear c_g9 f_g9 a_g9 d_g9 e_g9
      replace g9 := g9.below b; have c_g9 := g9.cell; have f_g9 := g9.free; have a_g9 := fun o => (g9.alloc o).cell; have d_g9 := fun o o2 => ((g9.alloc o).alloc o2).cell; have e_g9 := fun o => (g9.alloc o).free; replace B := B.trans (b.mono B.size); clear b
      go_wp2_with fail
      refine (R4.out _ _ o0.rd).mono ?_
      rintro e wa40 ⟨y27, rfl, q27, b⟩
      replace o0 := o0.below b; replace q18 := q18.below b; replace q22 := q22.below b; try clear c_g2 f_g2 a_g2 d_g2 e_g2
      replace g2 := g2.below b; have c_g2 := g2.cell; have f_g2 := g2.free; have a_g2 := fun o => (g2.alloc o).cell; have d_g2 := fun o o2 => ((g2.alloc o).alloc o2).cell; have e_g2 := fun o => (g2.alloc o).free; try clear c_g9 f_g9 a_g9 d_g9 e_g9
      replace g9 := g9.below b; have c_g9 := g9.cell; have f_g9 := g9.free; have a_g9 := fun o => (g9.alloc o).cell; have d_g9 := fun o o2 => ((g9.alloc o).alloc o2).cell; have e_g9 := fun o => (g9.alloc o).free; replace B := B.trans (b.mono B.size); clear b
      clear q27
      go_upto_region 28 with (fail)
      refine wp_gen (fun Wv => Below wa40.heap.size wa40 Wv) ((Below.refl _ wa40).alloc (by simp <;> omega) _) ?_
      intro wa41 b
      replace o0 := o0.below b; replace q18 := q18.below b; replace q22 := q22.below b; try clear c_g2 f_g2 a_g2 d_g2 e_g2
      replace g2 := g2.below b; have c_g2 := g2.cell; have f_g2 := g2.free; have a_g2 := fun o => (g2.alloc o).cell; have d_g2 := fun o o2 => ((g2.alloc o).alloc o2).cell; have e_g2 := fun o => (g2.alloc o).free; try clear c_g9 f_g9 a_g9 d_g9 e_g9
      replace g9 := g9.below b; have c_g9 := g9.cell; have f_g9 := g9.free; have a_g9 := fun o => (g9.alloc o).cell; have d_g9 := fun o o2 => ((g9.alloc o).alloc o2).cell; have e_g9 := fun o => (g9.alloc o).free; replace B := B.trans (b.mono B.size); clear b
      obtain ⟨ad, u0, ia, ca, fa, hset, hE, hB⟩ := set_x0 o0 B 16 (by rw [HZ.out.2.2.1]; omega) 1
      have ia' : ∀ W', (Instr.indexAt 22 x0 (.int .i64 16)).run Try.prog W' = .ok (.pointer (some ad)) W' := ia
      have HP := Lib.hid (And.intro hset (And.intro (hE _ _ _ q18) (And.intro (hE _ _ _ q22) (And.intro (hB _ _ _ g2 (by decide)) (hB _ _ _ g9 (by decide))))))
      clear c_g2 f_g2 a_g2 d_g2 e_g2 c_g9 f_g9 a_g9 d_g9 e_g9
      clear ia hset hE hB q18 q22 g2 g9 o0 B
      go_upto_region 29 with (fail)
      clear ca fa ia'
      refine wp_gen (fun W => OwnW W w.heap.size 24 x0 l3 ∧ (∃ b, OwnE W b y18 [(143, 0)]) ∧ (∃ b, OwnE W b y22 [(113, p1)]) ∧ Bx W p2 35 #[.int .i64 16, .int .i64 1] ∧ Bx W p9 35 #[.int .i64 1, .int .i64 1] ∧ Below w.heap.size w W) ⟨by rw [← HL3.out]; exact HP.out.1.1, ⟨_, HP.out.2.1⟩, ⟨_, HP.out.2.2.1⟩, HP.out.2.2.2.1, HP.out.2.2.2.2, HP.out.1.2⟩ ?_
      clear HP
      rintro w6 ⟨o0, ⟨_, q18⟩, ⟨_, q22⟩, g2, g9, B⟩
      have r0 := o0.rd; have r18 := q18.rd; have r22 := q22.rd
      clear o0 q18 q22
      have c_g2 := g2.cell; have f_g2 := g2.free; have a_g2 := fun o => (g2.alloc o).cell; have d_g2 := fun o o2 => ((g2.alloc o).alloc o2).cell; have e_g2 := fun o => (g2.alloc o).free
      have c_g9 := g9.cell; have f_g9 := g9.free; have a_g9 := fun o => (g9.alloc o).cell; have d_g9 := fun o o2 => ((g9.alloc o).alloc o2).cell; have e_g9 := fun o => (g9.alloc o).free
      go_wp2_with fail
      refine (G5.out _ _ r0).mono ?_
      rintro e wa42 ⟨rfl, b⟩
      replace r0 := r0.below b; replace r18 := r18.below b; replace r22 := r22.below b; try clear c_g2 f_g2 a_g2 d_g2 e_g2
      replace g2 := g2.below b; have c_g2 := g2.cell; have f_g2 := g2.free; have a_g2 := fun o => (g2.alloc o).cell; have d_g2 := fun o o2 => ((g2.alloc o).alloc o2).cell; have e_g2 := fun o => (g2.alloc o).free; try clear c_g9 f_g9 a_g9 d_g9 e_g9
      replace g9 := g9.below b; have c_g9 := g9.cell; have f_g9 := g9.free; have a_g9 := fun o => (g9.alloc o).cell; have d_g9 := fun o o2 => ((g9.alloc o).alloc o2).cell; have e_g9 := fun o => (g9.alloc o).free; replace B := B.trans (b.mono B.size); clear b
      clear c_g2 f_g2 a_g2 d_g2 e_g2
      clear g2
      obtain ⟨xc, ic, rc⟩ := Words.cutTo (P := Try.prog) r0 Try.underlying22 one_u64 (hi := 9) (by omega) (by rw [HZ.out.2.2.2]; omega)
      have ic' : ∀ W, (Instr.sliceAt 22 x0 none (some (.int .i64 9)) none).run Try.prog W = .ok xc W := ic
      replace rc : Words wa42 xc (l3.take 9) := rc
      rw [← HL9.out] at rc
      clear ic r0
      have HC9 := Lib.hid (fun x : Fut wa42 => rc.below x.h)
      clear rc
      go_upto_region 30 with (fail)
      refine wp_region_calm (by kernel_rfl) (by kernel_rfl) ?_
      try clear c_g9 f_g9 a_g9 d_g9 e_g9
      have c_g9 := fun x : Fut _ => (g9.below x.h).cell
      repeat (go_big_quiet_step (first | exact Fut.call (OW.out _) | exact Fut.call (S9.out _ _ (HC9.out _))))
      refine wpQuiet_nil ?_
      intro _ hw'
      obtain ⟨xq, hw''⟩ := hw'
      subst hw''
      replace r18 := r18.below xq.h
      replace r22 := r22.below xq.h
      clear c_g9; replace g9 := g9.below xq.h; have c_g9 := g9.cell; have f_g9 := g9.free; have a_g9 := fun o => (g9.alloc o).cell; have d_g9 := fun o o2 => ((g9.alloc o).alloc o2).cell; have e_g9 := fun o => (g9.alloc o).free
      replace B := B.trans (xq.h.mono B.size)
      clear HC9 ic'
      go_wp2_with fail
      refine (AL.out _).mono ?_
      rintro e wa43 ⟨rfl, b⟩
      replace r18 := r18.below b; replace r22 := r22.below b; try clear c_g9 f_g9 a_g9 d_g9 e_g9
      replace g9 := g9.below b; have c_g9 := g9.cell; have f_g9 := g9.free; have a_g9 := fun o => (g9.alloc o).cell; have d_g9 := fun o o2 => ((g9.alloc o).alloc o2).cell; have e_g9 := fun o => (g9.alloc o).free; replace B := B.trans (b.mono B.size); clear b
      go_wp2_with fail
      refine (O4.out _ _ r18).mono ?_
      rintro e wa44 ⟨rfl, b⟩
      replace r18 := r18.below b; replace r22 := r22.below b; try clear c_g9 f_g9 a_g9 d_g9 e_g9
      replace g9 := g9.below b; have c_g9 := g9.cell; have f_g9 := g9.free; have a_g9 := fun o => (g9.alloc o).cell; have d_g9 := fun o o2 => ((g9.alloc o).alloc o2).cell; have e_g9 := fun o => (g9.alloc o).free; replace B := B.trans (b.mono B.size); clear b
      go_wp2_with fail
      refine (F1.out _).mono ?_
      rintro e wa45 ⟨rfl, b⟩
      replace r18 := r18.below b; replace r22 := r22.below b; try clear c_g9 f_g9 a_g9 d_g9 e_g9
      replace g9 := g9.below b; have c_g9 := g9.cell; have f_g9 := g9.free; have a_g9 := fun o => (g9.alloc o).cell; have d_g9 := fun o o2 => ((g9.alloc o).alloc o2).cell; have e_g9 := fun o => (g9.alloc o).free; replace B := B.trans (b.mono B.size); clear b
      go_wp2_with fail
      refine (O5.out _ _ r22).mono ?_
      rintro e wa46 ⟨rfl, b⟩
      replace r18 := r18.below b; replace r22 := r22.below b; try clear c_g9 f_g9 a_g9 d_g9 e_g9
      replace g9 := g9.below b; have c_g9 := g9.cell; have f_g9 := g9.free; have a_g9 := fun o => (g9.alloc o).cell; have d_g9 := fun o o2 => ((g9.alloc o).alloc o2).cell; have e_g9 := fun o => (g9.alloc o).free; replace B := B.trans (b.mono B.size); clear b
      go_wp2
      go_ret
      exact ⟨rfl, B⟩
end Go.Proofs.Ytmbokdnndlnjkaa
