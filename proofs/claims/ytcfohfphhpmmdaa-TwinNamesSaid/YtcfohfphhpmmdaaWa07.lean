/- The walks of the laws TwinTells, TwinApart. -/
import Derived.Test.YtcfohfphhpmmdaaC07f
set_option linter.unusedVariables false
set_option linter.unusedSimpArgs false
namespace Go.Proofs.Ytcfohfphhpmmdaa
open Go.RowKit L02 L05 L06 L07

theorem sup7_eql (a b c d : Int) (r : Bool) (hr : r = (a == c && b == d)) (W : World) : (binOp .eql 26 (.agg #[.int .i64 a, .int .i64 b]) (.agg #[.int .i64 c, .int .i64 d])).run Try.prog W = .ok (.bool r) W := by
  subst hr
  cases h : (a == c) <;> cases h2 : (b == d) <;> simp [go_sem, h, h2]
theorem bb_items (a b c d : Bool) (W : World) : (Op.eqItems 9999 4 1 #[.bool a, .bool b] #[.bool c, .bool d] (List.range 2)).run Try.prog W = .ok (a == c && b == d) W := by
  have hp : ∀ (X : Array Value) (j : Nat) (u : Value) (W : World), X[j]? = some u → (part 4 X j).run Try.prog W = .ok u W := fun X j u W h => run_part_plain W (by kernel_rfl) h
  have hb : ∀ x y W, (Op.equalIn 9999 4 (.bool x) (.bool y)).run Try.prog W = .ok (x == y) W := fun x y W => run_equalIn_bool' W 9998 4 x y Try.underlying4
  rw [show List.range 2 = [0, 1] from rfl]
  simp only [Op.eqItems, Nat.mul_one, Sem.run_bind, hp #[.bool a, .bool b] 0 (.bool a) _ rfl, hp #[.bool c, .bool d] 0 (.bool c) _ rfl, Result.andThen_ok, hb]
  cases h : (a == c)
  · simp
  · simp [hp #[.bool a, .bool b] 1 (.bool b) _ rfl, hp #[.bool c, .bool d] 1 (.bool d) _ rfl, hb]
    cases h2 : (b == d) <;> simpa using h2
theorem bb_eql (a b c d : Bool) (r : Bool) (hr : r = (a == c && b == d)) (W : World) : (binOp .eql 27 (.agg #[.bool a, .bool b]) (.agg #[.bool c, .bool d])).run Try.prog W = .ok (.bool r) W := by
  subst hr
  obtain ⟨i, hi⟩ := Option.isSome_iff_exists.1 (show (Try.prog.info? 4).isSome = true by kernel_rfl)
  rw [run_eql_struct, run_equalIn_array (w := W) 9999 _ _ Try.underlying27 hi, show Try.prog.cellsOf 4 = 1 from by kernel_rfl, bb_items]
  rfl
theorem bb_neq (a b c d : Bool) (r : Bool) (hr : r = !(a == c && b == d)) (W : World) : (binOp .neq 27 (.agg #[.bool a, .bool b]) (.agg #[.bool c, .bool d])).run Try.prog W = .ok (.bool r) W := by
  subst hr
  obtain ⟨i, hi⟩ := Option.isSome_iff_exists.1 (show (Try.prog.info? 4).isSome = true by kernel_rfl)
  rw [run_neq_struct, run_equalIn_array (w := W) 9999 _ _ Try.underlying27 hi, show Try.prog.cellsOf 4 = 1 from by kernel_rfl, bb_items]
  rfl
theorem sameE_refl (a : List (Int × UInt64)) : sameE a a = true := by simp [sameE]

set_option maxRecDepth 100000 in
set_option maxHeartbeats 4000000 in
theorem TwinTells_walk (v0 : Value) (m : List UInt64) (w : World) (h0 : Words w v0 m) : Calls Try.prog 3 #[v0] w fun e w' => e = .returned (.bool true) ∧ Below w.heap.size w w' := by
  have B : Below w.heap.size w w := Below.refl _ _
  have H := Lib.hid h0; clear h0
  by_cases hbig : 2100 < m.length
  · skip
    go_enter Try.func3, Try.ntmps3
    go_wp2_with fail
    refine (Great_any _ _ _ (H.out.below B)).mono ?_
    rw [decide_eq_true hbig]
    rintro e w' ⟨rfl, rfl⟩
    go_wp2
    go_ret
    exact ⟨rfl, B⟩
  have TT := Lib.hid (fun w h => Twin_any v0 m w h (by omega))
  obtain ⟨W, hW⟩ : ∃ x, x = sW m := ⟨_, rfl⟩
  obtain ⟨T, hT⟩ : ∃ x, x = sT m := ⟨_, rfl⟩
  obtain ⟨b0, hb0⟩ : ∃ x, x = is0 m := ⟨_, rfl⟩
  obtain ⟨b1, hb1⟩ : ∃ x, x = is1 m := ⟨_, rfl⟩
  obtain ⟨r, hr⟩ : ∃ x, x = rErr m := ⟨_, rfl⟩
  obtain ⟨V, hV⟩ : ∃ x, x = view m := ⟨_, rfl⟩
  obtain ⟨E, hE⟩ : ∃ x, x = heals m := ⟨_, rfl⟩
  have R1 := Lib.hid (fun v w h => TRead_any v m W T b0 b1 r hW hT hb0 hb1 hr w h)
  have R2 := Lib.hid (fun v w h => TReadR_any v m W T b0 b1 r hW hT hb0 hb1 hr w h)
  have V1 := Lib.hid (fun v w h => TView_any v m V r hV hr w h)
  have V2 := Lib.hid (fun v w h => TViewR_any v m V r hV hr w h)
  have H1 := Lib.hid (fun v w h => THeal_any v m E r hE hr w h)
  have H2 := Lib.hid (fun v w h => THealR_any v m E r hE hr w h)
  have q1 := fun U => sup7_eql W T W T true (by simp) U
  have q2 := fun U => bb_eql b0 b1 b0 b1 true (by simp) U
  have Q1 := Lib.hid q1; have Q2 := Lib.hid q2
  have hbg := decide_eq_false hbig
  have HBG := Lib.hid hbg
  clear hW hT hb0 hb1 hr hV hE q1 q2 hbig hbg
  go_enter Try.func3, Try.ntmps3
  go_wp2_with fail
  refine (Great_any _ _ _ (H.out.below B)).mono ?_
  rw [HBG.out]
  rintro e w' ⟨rfl, rfl⟩
  go_wp2_with fail
  refine (TT.out _ (H.out.below B)).mono ?_
  rintro e wa1 ⟨vo, rfl, o, b⟩
  replace B := B.trans (b.mono B.size); clear b
  go_wp2_with fail
  refine (R1.out _ _ o.rd).mono ?_
  rintro e wa2 ⟨rfl, b⟩
  replace o := o.below b; replace B := B.trans (b.mono B.size); clear b
  go_upto_region 5 with (fail)
  refine wp_gen (fun Wv => Bx Wv (wa2.heap.size) (26) (#[.int .i64 W, .int .i64 T]) ∧ Bx Wv (wa2.heap.size + 1) (27) (#[.bool b0, .bool b1]) ∧ Below wa2.heap.size wa2 Wv) ⟨(((Bx.at_ (by simp)).alloc _)), ((Bx.at_ (by simp))), (((Below.refl _ wa2).alloc (by simp <;> omega) _).alloc (by simp <;> omega) _)⟩ ?_
  rintro wa3 ⟨g4, g5, b⟩
  replace o := o.below b; replace B := B.trans (b.mono B.size); clear b
  have c_g4 := g4.cell; have f_g4 := g4.free; have a_g4 := fun o => (g4.alloc o).cell; have d_g4 := fun o o2 => ((g4.alloc o).alloc o2).cell; have e_g4 := fun o => (g4.alloc o).free
  have c_g5 := g5.cell; have f_g5 := g5.free; have a_g5 := fun o => (g5.alloc o).cell; have d_g5 := fun o o2 => ((g5.alloc o).alloc o2).cell; have e_g5 := fun o => (g5.alloc o).free
  go_wp2_with fail
  refine (R2.out _ _ (H.out.below B)).mono ?_
  rintro e wa4 ⟨rfl, b⟩
  replace o := o.below b; try clear c_g4 f_g4 a_g4 d_g4 e_g4
  replace g4 := g4.below b; have c_g4 := g4.cell; have f_g4 := g4.free; have a_g4 := fun o => (g4.alloc o).cell; have d_g4 := fun o o2 => ((g4.alloc o).alloc o2).cell; have e_g4 := fun o => (g4.alloc o).free; try clear c_g5 f_g5 a_g5 d_g5 e_g5
  replace g5 := g5.below b; have c_g5 := g5.cell; have f_g5 := g5.free; have a_g5 := fun o => (g5.alloc o).cell; have d_g5 := fun o o2 => ((g5.alloc o).alloc o2).cell; have e_g5 := fun o => (g5.alloc o).free; replace B := B.trans (b.mono B.size); clear b
  go_upto_region 6 with (fail)
  refine wp_gen (fun Wv => Bx Wv (wa4.heap.size) (26) (#[.int .i64 W, .int .i64 T]) ∧ Bx Wv (wa4.heap.size + 1) (27) (#[.bool b0, .bool b1]) ∧ Below wa4.heap.size wa4 Wv) ⟨(((Bx.at_ (by simp)).alloc _)), ((Bx.at_ (by simp))), (((Below.refl _ wa4).alloc (by simp <;> omega) _).alloc (by simp <;> omega) _)⟩ ?_
  rintro wa5 ⟨g7, g8, b⟩
  replace o := o.below b; try clear c_g4 f_g4 a_g4 d_g4 e_g4
  replace g4 := g4.below b; have c_g4 := g4.cell; have f_g4 := g4.free; have a_g4 := fun o => (g4.alloc o).cell; have d_g4 := fun o o2 => ((g4.alloc o).alloc o2).cell; have e_g4 := fun o => (g4.alloc o).free; try clear c_g5 f_g5 a_g5 d_g5 e_g5
  replace g5 := g5.below b; have c_g5 := g5.cell; have f_g5 := g5.free; have a_g5 := fun o => (g5.alloc o).cell; have d_g5 := fun o o2 => ((g5.alloc o).alloc o2).cell; have e_g5 := fun o => (g5.alloc o).free; replace B := B.trans (b.mono B.size); clear b
  have c_g7 := g7.cell; have f_g7 := g7.free; have a_g7 := fun o => (g7.alloc o).cell; have d_g7 := fun o o2 => ((g7.alloc o).alloc o2).cell; have e_g7 := fun o => (g7.alloc o).free
  have c_g8 := g8.cell; have f_g8 := g8.free; have a_g8 := fun o => (g8.alloc o).cell; have d_g8 := fun o o2 => ((g8.alloc o).alloc o2).cell; have e_g8 := fun o => (g8.alloc o).free
  have G4 := Lib.hid g4; have G5 := Lib.hid g5; have G7 := Lib.hid g7; have G8 := Lib.hid g8
  have BX : Below wa5.heap.size wa5 wa5 := Below.refl _ _
  clear g4 g5 g7 g8 c_g4 f_g4 a_g4 d_g4 e_g4 c_g5 f_g5 a_g5 d_g5 e_g5 c_g7 f_g7 a_g7 d_g7 e_g7 c_g8 f_g8 a_g8 d_g8 e_g8
  obtain ⟨B1, hB1⟩ : ∃ x : Below wa5.heap.size wa5 wa5, x = BX := ⟨_, rfl⟩
  clear hB1 BX
  go_wp2_with fail
  refine (V1.out _ _ o.rd).mono ?_
  rintro e wa6 ⟨x1, rfl, o1, b⟩
  replace o := o.below b; replace B1 := B1.trans (b.mono B1.size); replace B := B.trans (b.mono B.size); clear b
  go_wp2_with fail
  refine (V2.out _ _ (H.out.below B)).mono ?_
  rintro e wa7 ⟨x2, rfl, o2, b⟩
  replace o := o.below b; replace B1 := B1.trans (b.mono B1.size); replace o1 := o1.below b; replace B := B.trans (b.mono B.size); clear b
  go_wp2_with fail
  refine (H1.out _ _ o.rd).mono ?_
  rintro e wa8 ⟨x3, rfl, o3, b⟩
  replace o := o.below b; replace B1 := B1.trans (b.mono B1.size); replace o1 := o1.below b; replace o2 := o2.below b; replace B := B.trans (b.mono B.size); clear b
  go_wp2_with fail
  refine (H2.out _ _ (H.out.below B)).mono ?_
  rintro e wa9 ⟨x4, rfl, o4, b⟩
  replace o := o.below b; replace B1 := B1.trans (b.mono B1.size); replace o1 := o1.below b; replace o2 := o2.below b; replace o3 := o3.below b; replace B := B.trans (b.mono B.size); clear b
  have c4 := (G4.out.below B1).cell; have c5 := (G5.out.below B1).cell; have c7 := (G7.out.below B1).cell; have c8 := (G8.out.below B1).cell
  have q1 := Q1.out; have q2 := Q2.out
  go_wp2_with fail
  clear c4 c5 c7 c8 q1 q2
  refine (Same_any _ _ V V _ o1.rd o2.rd).mono ?_
  rw [same_refl]
  rintro e wz ⟨rfl, q⟩
  replace o := o.below q.below; replace o3 := o3.below q.below; replace o4 := o4.below q.below; replace B := B.trans (q.below.mono B.size)
  clear q o1 o2
  go_wp2_with fail
  refine (SameE_any _ _ E E true (sameE_refl E).symm _ o3.rd o4.rd).mono ?_
  rintro e wy ⟨rfl, b⟩
  replace o := o.below b; replace B := B.trans (b.mono B.size)
  clear b o3 o4
  go_wp2_with fail
  refine (Same_any _ _ m m _ o.rd (H.out.below B)).mono ?_
  rw [same_refl]
  rintro e wx ⟨rfl, q⟩
  replace B := B.trans (q.below.mono B.size)
  go_wp2
  go_ret
  exact ⟨rfl, B⟩

set_option maxRecDepth 100000 in
set_option maxHeartbeats 4000000 in
theorem alive07_any (w : World) : Calls Try.prog 20 #[] w fun e w' => e = .returned (.bool true) ∧ Below w.heap.size w w' := by
  have B : Below w.heap.size w w := Below.refl _ _
  have WT := Lib.hid (fun w => with_any 256 1 (by decide) w)
  obtain ⟨m, hm⟩ : ∃ m, m = (made 256 1).set 2 0 := ⟨_, rfl⟩
  have hk : SupOk 256 1 := by decide
  have hlen : m.length = 256 := by rw [hm, List.length_set, made_len hk]; rfl
  have hs : SizeOk m.length := by rw [hlen]; decide
  have hsp : m = ([magic, 1, 0, u 1, 0, 0, 0, sum (body 256 1)] : List UInt64) ++ (wordsOf 256 1 ++ List.replicate ((256 : Int).toNat - 16) 0) := by rw [hm]; rfl
  have hng : ¬ CopyOk m.length [magic, 1, 0, u 1, 0, 0, 0, sum (body 256 1)] := by
    rintro ⟨⟨⟨h1, _⟩, _⟩, _⟩
    exact absurd h1.1 (by decide)
  obtain ⟨e0, e1, _, e2⟩ := two_spec hsp rfl (len_words 256 1) hs
  have hg : CopyOk m.length (wordsOf 256 1) := good_words hk (by rw [hlen]; rfl)
  obtain ⟨e3, e4, e5⟩ := e2 hng hg
  have i0 : false = is0 m := by rw [e0]; exact (decide_eq_false hng).symm
  have i1 : true = is1 m := by rw [e1]; exact (decide_eq_true hg).symm
  have hW : (256 : Int) = sW m := by rw [sW, if_pos e3, hlen]; rfl
  have hT : (1 : Int) = sT m := by rw [sT, if_pos e3, e4, at3_words hk]
  have hE : [(2, 256)] = heals m := by
    rw [heals_to e3, e5, hsp]
    have : diffsTo ([magic, 1, 0, u 1, 0, 0, 0, sum (body 256 1)] ++ (wordsOf 256 1 ++ List.replicate ((256 : Int).toNat - 16) 0)) (wordsOf 256 1 ++ (wordsOf 256 1 ++ List.replicate ((256 : Int).toNat - 16) 0)) 16 = [2] := by
      rw [diffsTo_congr (a' := [magic, 1, 0, u 1, 0, 0, 0, sum (body 256 1)] ++ wordsOf 256 1) (b' := wordsOf 256 1 ++ wordsOf 256 1) (fun i hi => by rw [← List.append_assoc, List.getElem?_append_left (by simp [len_words]; omega)]) (fun i hi => by rw [← List.append_assoc, List.getElem?_append_left (by simp [len_words]; omega)])]
      decide +kernel
    rw [this]
    rfl
  have R1 := Lib.hid (fun v w h => TRead_any v m 256 1 false true 0 hW hT i0 i1 e3.symm w h)
  have H1 := Lib.hid (fun v w h => THeal_any v m [(2, 256)] 0 hE e3.symm w h)
  have q1 := fun U => sup7_eql 256 1 256 1 true (by simp) U
  have q2 := fun U => bb_eql false true false true true (by simp) U
  have Q1 := Lib.hid q1; have Q2 := Lib.hid q2
  have HM := Lib.hid hm
  have hml : (made 256 1).length = 256 := by rw [made_len hk]; rfl
  have HML := Lib.hid hml
  clear hm hlen hs hsp hng e0 e1 e2 hg e3 e4 e5 i0 i1 hW hT hE q1 q2 hk hml
  go_enter Try.func20, Try.ntmps20
  go_upto_region 2 with (fail)
  refine wp_gen (fun Wv => Bx Wv (w.heap.size) (26) (#[.int .i64 256, .int .i64 1]) ∧ Below w.heap.size w Wv) ⟨((Bx.at_ (by simp))), ((Below.refl _ w).alloc (by simp <;> omega) _)⟩ ?_
  rintro wa1 ⟨g1, b⟩
  replace B := B.trans (b.mono B.size); clear b
  have c_g1 := g1.cell; have f_g1 := g1.free; have a_g1 := fun o => (g1.alloc o).cell; have d_g1 := fun o o2 => ((g1.alloc o).alloc o2).cell; have e_g1 := fun o => (g1.alloc o).free
  have hg1 := g1.lt
  have hbz := B.size
  go_wp2_with fail
  refine (WT.out _).mono ?_
  rintro e wa2 ⟨v, rfl, o, b⟩
  try clear c_g1 f_g1 a_g1 d_g1 e_g1
  replace g1 := g1.below b; have c_g1 := g1.cell; have f_g1 := g1.free; have a_g1 := fun o => (g1.alloc o).cell; have d_g1 := fun o o2 => ((g1.alloc o).alloc o2).cell; have e_g1 := fun o => (g1.alloc o).free; replace B := B.trans (b.mono B.size); clear b
  obtain ⟨ad, u0, ia, ca, fa, hb, hu, hset⟩ := own_at (P := Try.prog) o Try.underlying22 one_u64 (k := 2) (by omega) (by rw [HML.out]; omega)
  have o2 : OwnW (wa2.setCell ad (.int .u64 0)) wa1.heap.size 50 v m := by
    rw [HM.out]
    exact OwnW.set (x := 0) (hset (.int .u64 0))
  have g2 := g1.far (p := ad) (by omega) (.int .u64 0)
  have B2 := B.setCell (p := ad) (by omega) (.int .u64 0)
  have HH := Lib.hid (And.intro o2 (And.intro g2 B2))
  clear o2 g2 B2 o B hset hb hg1 hbz
  go_upto_region 6 with (fail)
  refine wp_gen (fun U => OwnW U wa1.heap.size 50 v m ∧ Bx U w.heap.size 26 #[.int .i64 256, .int .i64 1] ∧ Below w.heap.size w U) HH.out ?_
  clear HH ia ca fa hu c_g1 f_g1 a_g1 d_g1 e_g1 g1
  rintro w3 ⟨o, g1, B⟩
  have G1 := Lib.hid g1; clear g1
  have B1 : Below w3.heap.size w3 w3 := Below.refl _ _
  go_wp2_with fail
  refine (R1.out _ _ o.rd).mono ?_
  rintro e wa3 ⟨rfl, b⟩
  replace o := o.below b; replace B1 := B1.trans (b.mono B1.size); replace B := B.trans (b.mono B.size); clear b
  go_upto_region 7 with (fail)
  refine wp_gen (fun Wv => Bx Wv (wa3.heap.size) (26) (#[.int .i64 256, .int .i64 1]) ∧ Bx Wv (wa3.heap.size + 1) (27) (#[.bool false, .bool true]) ∧ Below wa3.heap.size wa3 Wv) ⟨(((Bx.at_ (by simp)).alloc _)), ((Bx.at_ (by simp))), (((Below.refl _ wa3).alloc (by simp <;> omega) _).alloc (by simp <;> omega) _)⟩ ?_
  rintro wa4 ⟨g4, g5, b⟩
  replace o := o.below b; replace B1 := B1.trans (b.mono B1.size); replace B := B.trans (b.mono B.size); clear b
  have c_g4 := g4.cell; have f_g4 := g4.free; have a_g4 := fun o => (g4.alloc o).cell; have d_g4 := fun o o2 => ((g4.alloc o).alloc o2).cell; have e_g4 := fun o => (g4.alloc o).free
  have c_g5 := g5.cell; have f_g5 := g5.free; have a_g5 := fun o => (g5.alloc o).cell; have d_g5 := fun o o2 => ((g5.alloc o).alloc o2).cell; have e_g5 := fun o => (g5.alloc o).free
  go_wp2_with fail
  refine (H1.out _ _ o.rd).mono ?_
  rintro e wa5 ⟨x3, rfl, o3, b⟩
  replace o := o.below b; replace B1 := B1.trans (b.mono B1.size); try clear c_g4 f_g4 a_g4 d_g4 e_g4
  replace g4 := g4.below b; have c_g4 := g4.cell; have f_g4 := g4.free; have a_g4 := fun o => (g4.alloc o).cell; have d_g4 := fun o o2 => ((g4.alloc o).alloc o2).cell; have e_g4 := fun o => (g4.alloc o).free; try clear c_g5 f_g5 a_g5 d_g5 e_g5
  replace g5 := g5.below b; have c_g5 := g5.cell; have f_g5 := g5.free; have a_g5 := fun o => (g5.alloc o).cell; have d_g5 := fun o o2 => ((g5.alloc o).alloc o2).cell; have e_g5 := fun o => (g5.alloc o).free; replace B := B.trans (b.mono B.size); clear b
  have g1 := G1.out.below B1
  have c_g1 := g1.cell
  have q1 := Q1.out; have q2 := Q2.out
  go_wp2_with fail
  clear q1 q2 c_g1
  refine (SameE_any x3 _ [(2, 256)] [(2, 256)] true (sameE_refl _).symm _ (Rd.alloc o3.rd _) (lit_ent 2 256 rfl)).mono ?_
  rintro e wz ⟨rfl, b⟩
  replace B := (B.alloc B.size _).trans (b.mono (B.alloc B.size (.cells #[.int .i64 2, .int .u64 256] 52)).size)
  go_wp2
  go_ret
  exact ⟨rfl, B⟩

theorem put_one {m : List UInt64} {k : Nat} (hs : SizeOk m.length) (hk : k < m.length) (x : UInt64) : L02.put m (k : Int) [x] = m.set k x ∧ rng m (k : Int) 1 = 0 := by
  have hr : rng m (k : Int) 1 = 0 := rng_ok hs ⟨by omega, by omega, by omega, by omega⟩
  refine ⟨?_, hr⟩
  rw [L02.put, if_pos (by exact hr), List.set_eq_take_append_cons_drop, if_pos hk]
  simp

set_option maxRecDepth 100000 in
set_option maxHeartbeats 4000000 in
theorem TwinApart_walk (v0 : Value) (m : List UInt64) (a : Int) (x : UInt64) (w : World) (h0 : Words w v0 m) (f1 : -9223372036854775808 ≤ a ∧ a ≤ 9223372036854775807) : Calls Try.prog 7 #[v0, .int .i64 a, .int .u64 x.toNat] w fun e w' => e = .returned (.bool true) ∧ Below w.heap.size w w' := by
  clear f1
  have B : Below w.heap.size w w := Below.refl _ _
  have l1 := Rd.len h0 Try.underlying22
  have H := Lib.hid h0; clear h0
  have CT := fun w h => CheckR_any v0 m w h
  by_cases hs : SizeOk m.length
  rotate_left
  · rw [chk_no hs] at CT
    have HC := Lib.hid CT; clear CT hs
    go_enter Try.func7, Try.ntmps7
    go_wp2_with fail
    refine (HC.out _ (H.out.below B)).mono ?_
    rintro e w' ⟨rfl, rfl⟩
    go_wp2_with fail
    refine (alive07_any _).mono ?_
    rintro e wa1 ⟨rfl, b⟩
    replace B := B.trans (b.mono B.size); clear b
    go_wp2
    go_ret
    exact ⟨rfl, B⟩
  rw [chk_ok hs] at CT
  have HC := Lib.hid CT; clear CT
  by_cases ha : a < 16
  · clear hs
    go_enter Try.func7, Try.ntmps7
    go_wp2_with fail
    refine (HC.out _ (H.out.below B)).mono ?_
    rintro e w' ⟨rfl, rfl⟩
    go_wp2_with fail
    refine (alive07_any _).mono ?_
    rintro e wa1 ⟨rfl, b⟩
    replace B := B.trans (b.mono B.size); clear b
    go_wp2
    go_ret
    exact ⟨rfl, B⟩
  by_cases hb : (m.length : Int) ≤ a
  · clear hs
    go_enter Try.func7, Try.ntmps7
    go_wp2_with fail
    refine (HC.out _ (H.out.below B)).mono ?_
    rintro e w' ⟨rfl, rfl⟩
    go_wp2_with fail
    refine (alive07_any _).mono ?_
    rintro e wa1 ⟨rfl, b⟩
    replace B := B.trans (b.mono B.size); clear b
    go_wp2
    go_ret
    exact ⟨rfl, B⟩
  obtain ⟨k, rfl⟩ := Int.eq_ofNat_of_zero_le (show 0 ≤ a by omega)
  obtain ⟨p1, p2⟩ := put_one hs (k := k) (by omega) x
  obtain ⟨a1, a2, a3, a4, a5, a6⟩ := apart (m := m) (k := k) (by omega) x
  obtain ⟨W, hW⟩ : ∃ x, x = sW m := ⟨_, rfl⟩
  obtain ⟨T, hT⟩ : ∃ x, x = sT m := ⟨_, rfl⟩
  obtain ⟨b0, hb0⟩ : ∃ x, x = is0 m := ⟨_, rfl⟩
  obtain ⟨b1, hb1⟩ : ∃ x, x = is1 m := ⟨_, rfl⟩
  obtain ⟨r, hr⟩ : ∃ x, x = rErr m := ⟨_, rfl⟩
  obtain ⟨E, hE⟩ : ∃ x, x = heals m := ⟨_, rfl⟩
  have PT := fun mv w h h' => Put_any v0 mv m [x] (k : Int) w h h'
  rw [p1, show (([x] : List UInt64).length : Int) = 1 from rfl, p2] at PT
  have HP := Lib.hid PT
  have R1 := Lib.hid (fun v w h => TRead_any v m W T b0 b1 r hW hT hb0 hb1 hr w h)
  have R2 := Lib.hid (fun v w h => TRead_any v (m.set k x) W T b0 b1 r (by rw [a4]; exact hW) (by rw [a5]; exact hT) (by rw [a2]; exact hb0) (by rw [a3]; exact hb1) (by rw [a1]; exact hr) w h)
  have H1 := Lib.hid (fun v w h => THeal_any v m E r hE hr w h)
  have H2 := Lib.hid (fun v w h => THeal_any v (m.set k x) E r (by rw [a6]; exact hE) (by rw [a1]; exact hr) w h)
  have Q1 := Lib.hid (fun U => sup7_eql W T W T true (by simp) U)
  have Q2 := Lib.hid (fun U => bb_eql b0 b1 b0 b1 true (by simp) U)
  clear hW hT hb0 hb1 hr hE p1 p2 a1 a2 a3 a4 a5 a6 PT hs
  go_enter Try.func7, Try.ntmps7
  go_wp2_with fail
  refine (HC.out _ (H.out.below B)).mono ?_
  rintro e w' ⟨rfl, rfl⟩
  go_wp2_with fail
  refine (HP.out _ _ ((H.out.below B).alloc _) (lit_words [x] rfl rfl (by simp))).mono ?_
  rintro e wp ⟨y, rfl, o, b⟩
  replace B := (B.alloc B.size _).trans (b.mono (B.alloc B.size (.cells #[.int .u64 x.toNat] 50)).size)
  clear b
  go_wp2_with fail
  refine (R1.out _ _ (H.out.below B)).mono ?_
  rintro e wa1 ⟨rfl, b⟩
  replace o := o.below b; replace B := B.trans (b.mono B.size); clear b
  go_upto_region 5 with (fail)
  refine wp_gen (fun Wv => Bx Wv (wa1.heap.size) (26) (#[.int .i64 W, .int .i64 T]) ∧ Bx Wv (wa1.heap.size + 1) (27) (#[.bool b0, .bool b1]) ∧ Below wa1.heap.size wa1 Wv) ⟨(((Bx.at_ (by simp)).alloc _)), ((Bx.at_ (by simp))), (((Below.refl _ wa1).alloc (by simp <;> omega) _).alloc (by simp <;> omega) _)⟩ ?_
  rintro wa2 ⟨g4, g5, b⟩
  replace o := o.below b; replace B := B.trans (b.mono B.size); clear b
  have c_g4 := g4.cell; have f_g4 := g4.free; have a_g4 := fun o => (g4.alloc o).cell; have d_g4 := fun o o2 => ((g4.alloc o).alloc o2).cell; have e_g4 := fun o => (g4.alloc o).free
  have c_g5 := g5.cell; have f_g5 := g5.free; have a_g5 := fun o => (g5.alloc o).cell; have d_g5 := fun o o2 => ((g5.alloc o).alloc o2).cell; have e_g5 := fun o => (g5.alloc o).free
  go_wp2_with fail
  refine (R2.out _ _ o.rd).mono ?_
  rintro e wa3 ⟨rfl, b⟩
  replace o := o.below b; try clear c_g4 f_g4 a_g4 d_g4 e_g4
  replace g4 := g4.below b; have c_g4 := g4.cell; have f_g4 := g4.free; have a_g4 := fun o => (g4.alloc o).cell; have d_g4 := fun o o2 => ((g4.alloc o).alloc o2).cell; have e_g4 := fun o => (g4.alloc o).free; try clear c_g5 f_g5 a_g5 d_g5 e_g5
  replace g5 := g5.below b; have c_g5 := g5.cell; have f_g5 := g5.free; have a_g5 := fun o => (g5.alloc o).cell; have d_g5 := fun o o2 => ((g5.alloc o).alloc o2).cell; have e_g5 := fun o => (g5.alloc o).free; replace B := B.trans (b.mono B.size); clear b
  go_upto_region 6 with (fail)
  refine wp_gen (fun Wv => Bx Wv (wa3.heap.size) (26) (#[.int .i64 W, .int .i64 T]) ∧ Bx Wv (wa3.heap.size + 1) (27) (#[.bool b0, .bool b1]) ∧ Below wa3.heap.size wa3 Wv) ⟨(((Bx.at_ (by simp)).alloc _)), ((Bx.at_ (by simp))), (((Below.refl _ wa3).alloc (by simp <;> omega) _).alloc (by simp <;> omega) _)⟩ ?_
  rintro wa4 ⟨g7, g8, b⟩
  replace o := o.below b; try clear c_g4 f_g4 a_g4 d_g4 e_g4
  replace g4 := g4.below b; have c_g4 := g4.cell; have f_g4 := g4.free; have a_g4 := fun o => (g4.alloc o).cell; have d_g4 := fun o o2 => ((g4.alloc o).alloc o2).cell; have e_g4 := fun o => (g4.alloc o).free; try clear c_g5 f_g5 a_g5 d_g5 e_g5
  replace g5 := g5.below b; have c_g5 := g5.cell; have f_g5 := g5.free; have a_g5 := fun o => (g5.alloc o).cell; have d_g5 := fun o o2 => ((g5.alloc o).alloc o2).cell; have e_g5 := fun o => (g5.alloc o).free; replace B := B.trans (b.mono B.size); clear b
  have c_g7 := g7.cell; have f_g7 := g7.free; have a_g7 := fun o => (g7.alloc o).cell; have d_g7 := fun o o2 => ((g7.alloc o).alloc o2).cell; have e_g7 := fun o => (g7.alloc o).free
  have c_g8 := g8.cell; have f_g8 := g8.free; have a_g8 := fun o => (g8.alloc o).cell; have d_g8 := fun o o2 => ((g8.alloc o).alloc o2).cell; have e_g8 := fun o => (g8.alloc o).free
  have G4 := Lib.hid g4; have G5 := Lib.hid g5; have G7 := Lib.hid g7; have G8 := Lib.hid g8
  have B1 : Below wa4.heap.size wa4 wa4 := Below.refl _ _
  clear g4 g5 g7 g8 c_g4 f_g4 a_g4 d_g4 e_g4 c_g5 f_g5 a_g5 d_g5 e_g5 c_g7 f_g7 a_g7 d_g7 e_g7 c_g8 f_g8 a_g8 d_g8 e_g8
  go_wp2_with fail
  refine (H1.out _ _ (H.out.below B)).mono ?_
  rintro e wa5 ⟨x3, rfl, o3, b⟩
  replace o := o.below b; replace B1 := B1.trans (b.mono B1.size); replace B := B.trans (b.mono B.size); clear b
  go_wp2_with fail
  refine (H2.out _ _ o.rd).mono ?_
  rintro e wa6 ⟨x4, rfl, o4, b⟩
  replace o := o.below b; replace B1 := B1.trans (b.mono B1.size); replace o3 := o3.below b; replace B := B.trans (b.mono B.size); clear b
  have c4 := (G4.out.below B1).cell; have c5 := (G5.out.below B1).cell; have c7 := (G7.out.below B1).cell; have c8 := (G8.out.below B1).cell
  have q1 := Q1.out; have q2 := Q2.out
  go_wp2_with fail
  clear c4 c5 c7 c8 q1 q2
  refine (SameE_any _ _ E E true (sameE_refl E).symm _ o3.rd o4.rd).mono ?_
  rintro e wy ⟨rfl, b⟩
  replace B := B.trans (b.mono B.size)
  clear b o3 o4
  go_wp2_with fail
  refine (alive07_any _).mono ?_
  rintro e wx ⟨rfl, b⟩
  replace B := B.trans (b.mono B.size)
  go_wp2
  go_ret
  exact ⟨rfl, B⟩
end Go.Proofs.Ytcfohfphhpmmdaa
