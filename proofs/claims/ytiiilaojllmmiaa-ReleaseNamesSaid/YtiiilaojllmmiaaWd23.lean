/- The walk of the law ReleaseNames. -/
import Derived.Test.YtiiilaojllmmiaaMRu
set_option linter.unusedVariables false
set_option linter.unusedSimpArgs false
namespace Go.Proofs.Ytiiilaojllmmiaa
open Go.RowKit L02 L05 L13 L14 L15 L16 L18 L19 L20

theorem enter_slot23 (a : Value) (W : World) : (callFunc 22 (#[] ++ #[a] ++ #[])).run Try.prog W = .ok (.enter 22 #[a]) W := by
  simp [go_sem]
theorem enter_free23 (a b : Value) (W : World) : (callFunc 21 (#[] ++ #[a, b] ++ #[])).run Try.prog W = .ok (.enter 21 #[a, b]) W := by
  simp [go_sem]
theorem ownW_at {w : World} {B : Nat} {v : Value} {l : List UInt64} (h : OwnW w B 25 v l) {k : Int} (h0 : 0 ≤ k) (hk : k < l.length) :
    ∃ ad u0, (∀ W, (Instr.indexAt 22 v (.int .i64 k)).run Try.prog W = .ok (.pointer (some ad)) W) ∧ w.cell? ad = some u0 ∧ w.frozen? ad = false ∧ B ≤ ad.block ∧ ∀ x : UInt64, OwnW (w.setCell ad (.int .u64 x.toNat)) B 25 v (l.set k.toNat x) := by
  obtain ⟨ad, u0, ia, ca, fa, hb, -, hset⟩ := own_at (P := Try.prog) h Try.underlying22 one_u64 h0 hk
  exact ⟨ad, u0, ia, ca, fa, hb, fun x => OwnW.set (hset (.int .u64 x.toNat))⟩

set_option maxRecDepth 100000 in
set_option maxHeartbeats 16000000 in
theorem ReleaseNames_walk (w : World) : Calls Try.prog 4 #[] w fun e w' => e = .returned (.bool true) ∧ Below w.heap.size w w' := by
  have B : Below w.heap.size w w := Below.refl _ _
  have AL := Lib.hid alive23_any
  have EX := Lib.hid (fun w => example23_any w)
  obtain ⟨l0, hl0⟩ : ∃ l, l = ex23 := ⟨_, rfl⟩
  obtain ⟨l1, hl1⟩ : ∃ l, l = rn1 := ⟨_, rfl⟩
  obtain ⟨l2, hl2⟩ : ∃ l, l = rn2 := ⟨_, rfl⟩
  obtain ⟨l3, hl3⟩ : ∃ l, l = rn3 := ⟨_, rfl⟩
  obtain ⟨l4, hl4⟩ : ∃ l, l = rn4 := ⟨_, rfl⟩
  obtain ⟨pv, hpv⟩ : ∃ p, p = pk ⟨1, true, 132⟩ := ⟨_, rfl⟩
  have s1 : l1 = (l0.set 130 132).set 134 132 := by rw [hl1, hl0]; rfl
  have s2 : l2 = l1.set 130 0 := by rw [hl2, hl1]; rfl
  have s3 : l3 = l2.set 120 pv := by rw [hl3, hl2, hpv]; rfl
  have s4 : l4 = l2.set 16 1 := by rw [hl4, hl2]; rfl
  obtain ⟨n1, n2, n3, n4⟩ := rn_len
  have n0 := ex23_len
  have f0 := rn2_113; have f1 := rn1_free; have f2 := rn1_busy; have f3 := rn2_busy; have f4 := rn3_free; have f5 := rn2_far; have f6 := rn2_old; have f7 := rn2_none; have f8 := rn2_cut; have f9 := rn3_drop; have f10 := rn4_ask; have f11 := rn2_f1; have f12 := rn2_f2
  rw [← hl0] at n0 EX
  rw [← hl1] at n1 f1 f2
  rw [← hl2, ← hpv] at f0
  rw [← hl2] at n2 f3 f5 f6 f7 f8 f11 f12
  rw [← hl3] at n3 f4 f9
  rw [← hl4] at n4 f10
  have HLN := Lib.hid (And.intro n0 (And.intro n1 (And.intro n2 (And.intro n3 n4))))
  have HS := Lib.hid (And.intro s1 (And.intro s2 (And.intro s3 (And.intro s4 f0))))
  have FA := Lib.hid (fun v w h => Free23_any v l1 1 1 _ 45 rfl f1.symm w h)
  have BA := Lib.hid (fun v w h => Busy23_any v l1 1 1 true 0 f2.1.symm f2.2.symm w h)
  have BB := Lib.hid (fun v w h => Busy23_any v l2 1 1 false 0 f3.1.symm f3.2.symm w h)
  have FB := Lib.hid (fun v w h => Free23_any v l3 1 1 _ 45 rfl f4.symm w h)
  have FC := Lib.hid (fun v w h => Free23_any v l2 16 1 _ 2 rfl f5.symm w h)
  have DA := Lib.hid (fun v w h => Drop23_any v l2 1 2 _ 28 rfl f6.symm w h)
  have BC := Lib.hid (fun v w h => Busy23_any v l2 5 0 _ 28 rfl f7.symm w h)
  have FD := Lib.hid (fun v w h => Free23_any v (l2.take 255) 1 1 _ 8 rfl f8.symm w h)
  have DB := Lib.hid (fun v w h => Drop23_any v l3 1 1 [(113, 4294967296)] 0 f9.2.symm f9.1.symm w h)
  have DC := Lib.hid (fun v w h => Drop23_any v l4 (-1) 0 _ 50 rfl f10.1.symm w h)
  have BD := Lib.hid (fun v w h => Busy23_any v l4 1 1 _ 50 rfl f10.2.symm w h)
  have F1 := Lib.hid (fun v w h => frees23_any v l2 1 132 4 (by decide) (by decide) f11.1 f11.2 w h)
  have F2 := Lib.hid (fun v w h => frees23_any v l2 2 136 120 (by decide) (by decide) f12.1 f12.2 w h)
  have SM := Lib.hid (fun va vb w ha hb => Same22_any va vb [(113, 4294967296)] [(113, 4294967296)] true (by simp) w ha hb)
  have hln : l2.length ≤ 1048576 := by rw [n2]; decide
  have TW := Lib.hid (fun v w h => Twin_any v l2 w h hln)
  clear hl0 hl1 hl2 hl3 hl4 hpv s1 s2 s3 s4 n0 n1 n2 n3 n4 f0 f1 f2 f3 f4 f5 f6 f7 f8 f9 f10 f11 f12 hln
  generalize biE l2 5 0 = bq1 at *
  generalize biE l4 1 1 = bq2 at *
  go_enter Try.func4, Try.ntmps4
  go_wp2_with fail
  refine (EX.out _).mono ?_
  rintro e wa1 ⟨x, rfl, ox, b⟩
  replace B := B.trans (b.mono B.size); clear b
  go_upto_region 2 with (fail)
  obtain ⟨ad, u0, ia, ca, fa, hb, hset⟩ := ownW_at ox (k := 130) (by omega) (by rw [HLN.out.1]; omega)
  have hset1 : OwnW (wa1.setCell ad (.int .u64 132)) w.heap.size 25 x (l0.set 130 132) := hset 132
  obtain ⟨ad2, u2, ia2, ca2, fa2, hb2, hset2⟩ := ownW_at hset1 (k := 134) (by omega) (by rw [List.length_set, HLN.out.1]; omega)
  have HR := Lib.hid (show OwnW ((wa1.setCell ad (.int .u64 132)).setCell ad2 (.int .u64 132)) w.heap.size 25 x l1 ∧ Below w.heap.size w ((wa1.setCell ad (.int .u64 132)).setCell ad2 (.int .u64 132)) from ⟨by rw [HS.out.1]; exact hset2 132, (B.setCell (p := ad) hb _).setCell (p := ad2) hb2 _⟩)
  clear ox hset hset1 hset2 hb hb2 B
  go_upto_region 3 with (fail)
  refine wp_gen (fun V => OwnW V w.heap.size 25 x l1 ∧ Below w.heap.size w V) HR.out ?_
  clear HR ia ca fa ia2 ca2 fa2
  rintro va ⟨ox, B⟩
  go_wp2_with fail
  refine (slot23_any 1 _).mono ?_
  rintro e wa2 ⟨rfl, b⟩
  replace ox := ox.below b; replace B := B.trans (b.mono B.size); clear b
  go_wp2_with fail
  refine (FA.out _ _ ox.rd).mono ?_
  rintro e wa3 ⟨y1, rfl, o1, b⟩
  replace ox := ox.below b; replace B := B.trans (b.mono B.size); clear b
  clear o1
  go_wp2_with fail
  refine (slot23_any 1 _).mono ?_
  rintro e wa4 ⟨rfl, b⟩
  replace ox := ox.below b; replace B := B.trans (b.mono B.size); clear b
  go_wp2_with fail
  refine (BA.out _ _ ox.rd).mono ?_
  rintro e wa5 ⟨rfl, b⟩
  replace ox := ox.below b; replace B := B.trans (b.mono B.size); clear b
  go_upto_region 5 with (fail)
  obtain ⟨ad, u0, ia, ca, fa, hb, hset⟩ := ownW_at ox (k := 130) (by omega) (by rw [HLN.out.2.1]; omega)
  have HR := Lib.hid (show OwnW (wa5.setCell ad (.int .u64 0)) w.heap.size 25 x l2 ∧ Below w.heap.size w (wa5.setCell ad (.int .u64 0)) from ⟨by rw [HS.out.2.1]; exact hset 0, B.setCell (p := ad) hb _⟩)
  clear ox hset hb B
  go_upto_region 6 with (fail)
  refine wp_gen (fun V => OwnW V w.heap.size 25 x l2 ∧ Below w.heap.size w V) HR.out ?_
  clear HR ia ca fa
  rintro vb ⟨ox, B⟩
  go_wp2_with fail
  refine (slot23_any 1 _).mono ?_
  rintro e wa6 ⟨rfl, b⟩
  replace ox := ox.below b; replace B := B.trans (b.mono B.size); clear b
  go_wp2_with fail
  refine (BB.out _ _ ox.rd).mono ?_
  rintro e wa7 ⟨rfl, b⟩
  replace ox := ox.below b; replace B := B.trans (b.mono B.size); clear b
  have hz7 := B.size
  go_wp2_with fail
  refine (TW.out _ _ ox.rd).mono ?_
  rintro e wa8 ⟨z, rfl, oz, b⟩
  have hne := (own_ne ox oz (Nat.le_refl _)).2
  replace ox := ox.below b
  replace B := B.trans (b.mono B.size)
  clear b
  go_upto_region 8 with (fail)
  obtain ⟨ad3, x3, ia3, ca3, hx3⟩ := oz.rd.at_ (P := Try.prog) Try.underlying22 one_u64 (k := 113) (by rw [HLN.out.2.2.1]; omega)
  obtain rfl : x3 = pv := by have := hx3.out; rw [HS.out.2.2.2.2] at this; injection this with e; exact e.symm
  have ia3' : ∀ W, (Instr.indexAt 22 z (.int .i64 113)).run Try.prog W = .ok (.pointer (some ad3)) W := ia3
  clear ia3 hx3
  obtain ⟨ad, ia, ca, fa, hb, hob, hset⟩ := oz.at_ (k := 120) (by rw [HLN.out.2.2.1]; omega)
  have ia' : ∀ W, (Instr.indexAt 22 z (.int .i64 120)).run Try.prog W = .ok (.pointer (some ad)) W := ia
  have HR := Lib.hid (show OwnW (wa8.setCell ad (.int .u64 x3.toNat)) wa7.heap.size 25 z l3 ∧ Below w.heap.size w (wa8.setCell ad (.int .u64 x3.toNat)) ∧ Words (wa8.setCell ad (.int .u64 x3.toNat)) x l2 from ⟨by rw [HS.out.2.2.1]; exact hset x3, B.setCell (p := ad) (Nat.le_trans hz7 hb) _, (ox.kept (grown_set _ ad _) (by rw [← hob]; exact hne)).rd⟩)
  clear oz hset hb B ia hne hob ox
  go_upto_region 9 with (fail)
  refine wp_gen (fun V => OwnW V wa7.heap.size 25 z l3 ∧ Below w.heap.size w V ∧ Words V x l2) HR.out ?_
  clear HR ia' ca fa ia3' ca3
  rintro vc ⟨oz, B, rx⟩
  go_wp2_with fail
  refine (slot23_any 1 _).mono ?_
  rintro e wa8 ⟨rfl, b⟩
  replace oz := oz.below b; replace rx := rx.below b; replace B := B.trans (b.mono B.size); clear b
  go_wp2_with fail
  refine (FB.out _ _ oz.rd).mono ?_
  rintro e wa9 ⟨y3, rfl, o3, b⟩
  replace oz := oz.below b; replace rx := rx.below b; replace B := B.trans (b.mono B.size); clear b
  clear o3
  go_wp2_with fail
  refine (FC.out _ _ rx).mono ?_
  rintro e wa10 ⟨y4, rfl, o4, b⟩
  replace oz := oz.below b; replace rx := rx.below b; replace B := B.trans (b.mono B.size); clear b
  clear o4
  go_wp2_with fail
  refine (DA.out _ _ rx).mono ?_
  rintro e wa11 ⟨y5, rfl, o5, b⟩
  replace oz := oz.below b; replace rx := rx.below b; replace B := B.trans (b.mono B.size); clear b
  clear o5
  go_wp2_with fail
  refine (BC.out _ _ rx).mono ?_
  rintro e wa12 ⟨rfl, b⟩
  replace oz := oz.below b; replace rx := rx.below b; replace B := B.trans (b.mono B.size); clear b
  go_upto_region 13 with (fail)
  obtain ⟨xc, sc, rc⟩ := rx.cutTo (P := Try.prog) Try.underlying22 one_u64 (hi := 255) (by omega) (by rw [HLN.out.2.2.1]; omega)
  have rc' : Words wa12 xc (l2.take 255) := rc
  have hz13 := B.size
  refine wp_region_f2 8 2 3 (fun v => v = .agg #[.int .i64 1, .int .i64 1]) (fun v => ∃ y, v = .tuple #[y, .int .i64 8]) (fun v W => True) (fun v W => True) (by decide) ⟨_, rfl⟩ ⟨_, undef, rfl⟩ (fun v W W' h b => trivial) (fun v W W' h b => trivial) (by kernel_rfl) (by kernel_rfl) (by kernel_rfl) ?_
  intro gg hv0 hv1
  obtain ⟨y6, hy6⟩ := hv1
  simp only [List.take_succ_cons, List.take_zero, List.drop_succ_cons, List.drop_zero]
  iterate 2 (refine wpH_read0 rfl rfl ?_; go_big_quiet_step (fail); refine wpQuiet_nil ?_)
  refine wpH_new rfl rfl (TS.call (av := #[.int .i64 1]) (by simp [Act.eval]) (fun W => enter_slot23 _ W) ?_) ?_
  · intro W hW _
    refine (slot23_any 1 W).mono ?_
    rintro e W' ⟨rfl, bb⟩
    exact ⟨_, rfl, ⟨fun _ => rfl, fun e => (by cases e)⟩, bb, fun g' hg' _ => ⟨fun _ => trivial, fun e => (by cases e)⟩⟩
  rw [hv0]
  simp only [Act.put, List.setIfInBounds_toArray, List.set_cons_zero, List.set_cons_succ]
  refine wpH_new rfl rfl (TS.call (av := #[xc, .agg #[.int .i64 1, .int .i64 1]]) (by simp [Act.eval]) (fun W => enter_free23 _ _ W) ?_) ?_
  · intro W hW hd
    refine (FD.out _ W (rc'.below hW)).mono ?_
    rintro e W' ⟨y, rfl, o, bb⟩
    exact ⟨_, rfl, ⟨fun e => (by cases e), fun _ => ⟨y, rfl⟩⟩, bb, fun g' hg' _ => ⟨fun e => (by cases e), fun _ => trivial⟩⟩
  rw [hy6]
  simp only [Act.put, List.setIfInBounds_toArray, List.set_cons_zero, List.set_cons_succ]
  iterate 4 (refine wpH_read0 rfl rfl ?_; go_big_quiet_step (fail); refine wpQuiet_nil ?_)
  refine wpH_nil ?_
  intro W1 bW _ _
  replace oz := oz.below bW
  replace rx := rx.below bW
  replace B := B.trans (bW.mono hz13)
  clear bW hz13 rc rc' sc
  go_wp2_with fail
  refine (slot23_any 1 _).mono ?_
  rintro e wa13 ⟨rfl, b⟩
  replace oz := oz.below b; replace rx := rx.below b; replace B := B.trans (b.mono B.size); clear b
  go_wp2_with fail
  refine (DB.out _ _ oz.rd).mono ?_
  rintro e wa14 ⟨y7, rfl, o7, b⟩
  replace oz := oz.below b; replace rx := rx.below b; replace B := B.trans (b.mono B.size); clear b
  have q7 := o7.rd
  clear o7 oz
  go_wp2_with fail
  refine (TW.out _ _ rx).mono ?_
  rintro e wa15 ⟨z2, rfl, oz, b⟩
  go_upto_region 16 with (fail)
  obtain ⟨ad, ia, ca, fa, hb, hob, hset⟩ := oz.at_ (k := 16) (by rw [HLN.out.2.2.1]; omega)
  have ia' : ∀ W, (Instr.indexAt 22 z2 (.int .i64 16)).run Try.prog W = .ok (.pointer (some ad)) W := ia
  have bb : Below wa14.heap.size wa14 (wa15.setCell ad (.int .u64 1)) := b.setCell (p := ad) hb (.int .u64 1)
  have HR := Lib.hid (show Words (wa15.setCell ad (.int .u64 1)) z2 l4 ∧ Below w.heap.size w (wa15.setCell ad (.int .u64 1)) ∧ Words (wa15.setCell ad (.int .u64 1)) x l2 ∧ Ents (wa15.setCell ad (.int .u64 1)) y7 [(113, 4294967296)] from ⟨by rw [HS.out.2.2.2.1]; exact (hset 1).rd, B.trans (bb.mono B.size), rx.below bb, Rd.below q7 bb⟩)
  clear oz hset hb B ia hob rx q7 b bb
  go_upto_region 17 with (fail)
  refine wp_gen (fun V => Words V z2 l4 ∧ Below w.heap.size w V ∧ Words V x l2 ∧ Ents V y7 [(113, 4294967296)]) HR.out ?_
  clear HR ia' ca fa
  rintro vd ⟨rz, B, rx, q7⟩
  go_wp2_with fail
  refine (DC.out _ _ rz).mono ?_
  rintro e wa15 ⟨y8, rfl, o8, b⟩
  replace rz := rz.below b; replace rx := rx.below b; replace q7 := q7.below b; replace B := B.trans (b.mono B.size); clear b
  clear o8
  go_wp2_with fail
  refine (slot23_any 1 _).mono ?_
  rintro e wa16 ⟨rfl, b⟩
  replace rz := rz.below b; replace rx := rx.below b; replace q7 := q7.below b; replace B := B.trans (b.mono B.size); clear b
  go_wp2_with fail
  refine (BD.out _ _ rz).mono ?_
  rintro e wa17 ⟨rfl, b⟩
  replace rz := rz.below b; replace rx := rx.below b; replace q7 := q7.below b; replace B := B.trans (b.mono B.size); clear b
  go_wp2_with fail
  refine (AL.out _).mono ?_
  rintro e wa18 ⟨rfl, b⟩
  replace rz := rz.below b; replace rx := rx.below b; replace q7 := q7.below b; replace B := B.trans (b.mono B.size); clear b
  go_wp2_with fail
  refine (F1.out _ _ rx).mono ?_
  rintro e wa19 ⟨rfl, b⟩
  replace rz := rz.below b; replace rx := rx.below b; replace q7 := q7.below b; replace B := B.trans (b.mono B.size); clear b
  go_wp2_with fail
  refine (F2.out _ _ rx).mono ?_
  rintro e wa20 ⟨rfl, b⟩
  replace rz := rz.below b; replace rx := rx.below b; replace q7 := q7.below b; replace B := B.trans (b.mono B.size); clear b
  go_wp2_with fail
  refine (SM.out _ _ _ (Rd.alloc q7 _) (ent_own (a := 113) (x := 4294967296) (Nat.le_refl _)).rd).mono ?_
  rintro e w2 ⟨rfl, b⟩
  replace B := (B.alloc B.size _).trans (b.mono (B.alloc B.size _).size)
  go_wp2
  go_ret
  exact ⟨rfl, B⟩
end Go.Proofs.Ytiiilaojllmmiaa
