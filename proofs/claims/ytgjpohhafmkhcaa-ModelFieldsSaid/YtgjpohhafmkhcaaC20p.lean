/- Contracts of models: a field that is there. -/
import Derived.Test.YtgjpohhafmkhcaaC20o
set_option linter.unusedVariables false
set_option linter.unusedSimpArgs false
namespace Go.Proofs.Ytgjpohhafmkhcaa
open Go.RowKit L02 L13 L18 L20

def wsF (w : World) (p : Nat) (a b c : Value) : Nat → World
  | 0 => w.drew
  | _ => ((w.drew.setCell ⟨p, 0, none⟩ a).setCell ⟨p, 1, none⟩ b).setCell ⟨p, 2, none⟩ c

/-- a byte of an own table -/
theorem OwnT.at2 {w : World} {base : Nat} {v : Value} {L : List (List UInt8)} (h : OwnT w base v L) {k i : Nat} {l : List UInt8} {b : UInt8} (hl : L[k]? = some l) (hb : l[i]? = some b) :
    ∃ ad bd y, (∀ W, (Instr.indexAt 22 v (.int .i64 (k : Int))).run Try.prog W = .ok (.pointer (some ad)) W) ∧ w.cell? ad = some y ∧ (∀ W, (Instr.indexAt 74 y (.int .i64 (i : Int))).run Try.prog W = .ok (.pointer (some bd)) W) ∧ w.cell? bd = some (.int .u8 b.toNat) ∧ base ≤ ad.block ∧ base ≤ bd.block := by
  obtain ⟨vs, h1, h2, h4⟩ := h
  have hk : k < L.length := (List.getElem?_eq_some_iff.1 hl).1
  have hi : i < l.length := (List.getElem?_eq_some_iff.1 hb).1
  have hv : vs[k]? = some vs[k] := List.getElem?_eq_getElem (by omega)
  have hr := h4 k _ _ hv hl
  obtain ⟨g, c, cur, e, hg, _⟩ := own_form h2 (by omega)
  obtain ⟨g', c', cur', e', hg', _⟩ := own_form hr (by omega)
  refine ⟨cellAt v (k * 1), cellAt vs[k] (i * 1), vs[k], fun W => Rd.ixN (Rd.of_own h2) Try.underlying22 one_bytes hk W, by rw [Nat.mul_one]; exact Rd.cell (Rd.of_own h2) hv, fun W => Rd.ixN (OwnB.rd hr) Try.underlying74 one_u8 hi W, ?_, ?_, ?_⟩
  · rw [Nat.mul_one]; exact Rd.cell (OwnB.rd hr) (by rw [List.getElem?_map, hb]; rfl)
  · rw [e]; exact hg
  · rw [e']; exact hg'

set_option maxRecDepth 100000 in
set_option maxHeartbeats 4000000 in
theorem field_ok (tv ov sv : Value) (m : Mo) (sl g : Int) (i : Nat) (kd : UInt8) (o : Ob) (n' : Nat) (h0 : kErrF m sl g i = 0) (hkd : kd = kind m sl g i) (hown : own m sl = n') (ho : m.objs[n']? = some o) (w : World) (h : Mod w tv ov sv m) :
    Calls Try.prog 39 #[.agg #[tv, ov, sv], .agg #[.int .i64 sl, .int .i64 g], .int .i64 i] w fun e w' => ∃ t' o' s' gf, e = .returned (.tuple #[.agg #[t', o', s'], .pointer (some ⟨gf, i, none⟩), .int .u8 kd.toNat, .int .i64 0]) ∧ OwnM w' w.heap.size 67 t' o' s' m ∧ OwnF w' w.heap.size o' m.objs n' gf ∧ Below w.heap.size w w' := by
  have B : Below w.heap.size w w := Below.refl _ _
  have H := Lib.hid h
  obtain ⟨ha, hn0, hnl⟩ := kErrF_inv h0
  obtain ⟨c0, hr0, k, s, n2, o2, t, hk, hk16, hs, hu, hg, hso, hat, hown2, ho2, hob, hoo, ht, htt, hkinds, hfl⟩ := asked_ok ha
  obtain rfl : n2 = n' := by rw [← hown2, hown]
  obtain rfl : o2 = o := by rw [ho2] at ho; injection ho
  have OT := Lib.hid (fun w h => open20_ok tv ov sv m sl g n2 ha hown w h)
  rw [hkinds] at hnl
  have hil : i < t.length := by omega
  have hkk : kd = t.getD i 0 := by rw [hkd, kind, if_pos h0, hkinds]; rfl
  have hki : t[i]? = some kd := by rw [hkk, List.getD_eq_getElem?_getD, List.getElem?_eq_getElem hil]; rfl
  have hty0 := hoo.1.1
  obtain ⟨q, hq⟩ := Int.eq_ofNat_of_zero_le hty0
  rw [hq, Int.toNat_natCast] at ht
  have HO := Lib.hid ho; have HFL := Lib.hid hfl; have HT := Lib.hid ht; have HKI := Lib.hid hki; have HQ := Lib.hid hq
  clear ha h0 hkd hkk c0 hr0 hs hu hg hso hat hown hown2 ho ho2 hob hoo ht htt hkinds h hk hfl hki hty0 hn0 hnl
  go_enter Try.func39, Try.ntmps39
  go_upto_region 1 with (fail)
  refine wp_gen (fun Wv => Bx Wv (w.heap.size) (26) (#[tv, ov, sv]) ∧ Bx Wv (w.heap.size + 1) (28) (#[.int .i64 sl, .int .i64 g]) ∧ Bx Wv (w.heap.size + 1 + 1) (26) (#[.slice none 0 0, .slice none 0 0, .slice none 0 0]) ∧ Below w.heap.size w Wv) ⟨((((Bx.at_ (by simp)).alloc _).alloc _)), (((Bx.at_ (by simp)).alloc _)), ((Bx.at_ (by simp))), ((((Below.refl _ w).alloc (by simp <;> omega) _).alloc (by simp <;> omega) _).alloc (by simp <;> omega) _)⟩ ?_
  rintro wa1 ⟨g1, g2, g3, b⟩
  replace B := B.trans (b.mono B.size); clear b
  have c_g1 := g1.cell; have f_g1 := g1.free; have a_g1 := fun o => (g1.alloc o).cell; have d_g1 := fun o o2 => ((g1.alloc o).alloc o2).cell; have e_g1 := fun o => (g1.alloc o).free
  have c_g2 := g2.cell; have f_g2 := g2.free; have a_g2 := fun o => (g2.alloc o).cell; have d_g2 := fun o o2 => ((g2.alloc o).alloc o2).cell; have e_g2 := fun o => (g2.alloc o).free
  have c_g3 := g3.cell; have f_g3 := g3.free; have a_g3 := fun o => (g3.alloc o).cell; have d_g3 := fun o o2 => ((g3.alloc o).alloc o2).cell; have e_g3 := fun o => (g3.alloc o).free
  have hz1 := B.size
  have hp1 := g3.lt
  go_wp2_with fail
  refine (OT.out _ (H.out.below B)).mono ?_
  rintro e wa2 ⟨t', o', s', rfl, om, b⟩
  try clear c_g1 f_g1 a_g1 d_g1 e_g1
  replace g1 := g1.below b; have c_g1 := g1.cell; have f_g1 := g1.free; have a_g1 := fun o => (g1.alloc o).cell; have d_g1 := fun o o2 => ((g1.alloc o).alloc o2).cell; have e_g1 := fun o => (g1.alloc o).free; try clear c_g2 f_g2 a_g2 d_g2 e_g2
  replace g2 := g2.below b; have c_g2 := g2.cell; have f_g2 := g2.free; have a_g2 := fun o => (g2.alloc o).cell; have d_g2 := fun o o2 => ((g2.alloc o).alloc o2).cell; have e_g2 := fun o => (g2.alloc o).free; try clear c_g3 f_g3 a_g3 d_g3 e_g3
  replace g3 := g3.below b; have c_g3 := g3.cell; have f_g3 := g3.free; have a_g3 := fun o => (g3.alloc o).cell; have d_g3 := fun o o2 => ((g3.alloc o).alloc o2).cell; have e_g3 := fun o => (g3.alloc o).free; replace B := B.trans (b.mono B.size); clear b
  have hp1b := g3.lt
  obtain ⟨⟨tA, tn, tc, rfl⟩, ⟨oA, on, oc, rfl⟩, ⟨sA, sn, sc, rfl⟩⟩ := om.forms
  go_upto_region 2 with (fail)
  refine wp_gen (fun Wv => Bx Wv (wa2.heap.size) (26) (#[.slice tA tn tc, .slice oA on oc, .slice sA sn sc]) ∧ Below wa2.heap.size wa2 Wv) ⟨((Bx.at_ (by simp))), ((Below.refl _ wa2).alloc (by simp <;> omega) _)⟩ ?_
  rintro wa3 ⟨g4, b⟩
  try clear c_g1 f_g1 a_g1 d_g1 e_g1
  replace g1 := g1.below b; have c_g1 := g1.cell; have f_g1 := g1.free; have a_g1 := fun o => (g1.alloc o).cell; have d_g1 := fun o o2 => ((g1.alloc o).alloc o2).cell; have e_g1 := fun o => (g1.alloc o).free; try clear c_g2 f_g2 a_g2 d_g2 e_g2
  replace g2 := g2.below b; have c_g2 := g2.cell; have f_g2 := g2.free; have a_g2 := fun o => (g2.alloc o).cell; have d_g2 := fun o o2 => ((g2.alloc o).alloc o2).cell; have e_g2 := fun o => (g2.alloc o).free; try clear c_g3 f_g3 a_g3 d_g3 e_g3
  replace g3 := g3.below b; have c_g3 := g3.cell; have f_g3 := g3.free; have a_g3 := fun o => (g3.alloc o).cell; have d_g3 := fun o o2 => ((g3.alloc o).alloc o2).cell; have e_g3 := fun o => (g3.alloc o).free; replace om := om.below b; replace B := B.trans (b.mono B.size); clear b
  have c_g4 := g4.cell; have f_g4 := g4.free; have a_g4 := fun o => (g4.alloc o).cell; have d_g4 := fun o o2 => ((g4.alloc o).alloc o2).cell; have e_g4 := fun o => (g4.alloc o).free
  have hp1c := g3.lt
  obtain ⟨ob_, oq, gf, nf, cf, ix, m0, m1, hob2, of_, hnf, hix⟩ := om.o.at_ HO.out (by have := HFL.out; omega)
  have hixi := hix i (by have := HFL.out; omega)
  obtain ⟨ad, bd, y, it, m2, ib, m3, hab, hbb⟩ := OwnT.at2 om.t HT.out HKI.out
  have lx : ∀ ty W, (Builtin.len_ #[70] ty #[.slice (some ⟨gf, 0, none⟩) nf cf]).run Try.prog W = .ok (.int .i64 (nf : Int)) W := by
    intro ty W; simp [Builtin.len_, run_underlying Try.underlying70]; rfl
  have hcase : ¬ (i : Int) < 0 ∧ ¬ nf ≤ i ∧ ¬ (nf : Int) ≤ (i : Int) := by have := HFL.out; omega
  obtain ⟨n1, n3, n4⟩ := hcase
  clear hix hnf
  go_upto_region 5 with (fail)
  rw [HQ.out] at m0
  refine wp_gen (fun Wv => Bx Wv (wa3.heap.size) (72) (#[.int .i64 (q : Int), .slice (some ⟨gf, 0, none⟩) nf cf]) ∧ Below wa3.heap.size wa3 Wv) ⟨((Bx.at_ (by simp))), ((Below.refl _ wa3).alloc (by simp <;> omega) _)⟩ ?_
  rintro wa4 ⟨g5, b⟩
  try clear c_g1 f_g1 a_g1 d_g1 e_g1
  replace g1 := g1.below b; have c_g1 := g1.cell; have f_g1 := g1.free; have a_g1 := fun o => (g1.alloc o).cell; have d_g1 := fun o o2 => ((g1.alloc o).alloc o2).cell; have e_g1 := fun o => (g1.alloc o).free; try clear c_g2 f_g2 a_g2 d_g2 e_g2
  replace g2 := g2.below b; have c_g2 := g2.cell; have f_g2 := g2.free; have a_g2 := fun o => (g2.alloc o).cell; have d_g2 := fun o o2 => ((g2.alloc o).alloc o2).cell; have e_g2 := fun o => (g2.alloc o).free; try clear c_g3 f_g3 a_g3 d_g3 e_g3
  replace g3 := g3.below b; have c_g3 := g3.cell; have f_g3 := g3.free; have a_g3 := fun o => (g3.alloc o).cell; have d_g3 := fun o o2 => ((g3.alloc o).alloc o2).cell; have e_g3 := fun o => (g3.alloc o).free; try clear c_g4 f_g4 a_g4 d_g4 e_g4
  replace g4 := g4.below b; have c_g4 := g4.cell; have f_g4 := g4.free; have a_g4 := fun o => (g4.alloc o).cell; have d_g4 := fun o o2 => ((g4.alloc o).alloc o2).cell; have e_g4 := fun o => (g4.alloc o).free; replace om := om.below b; replace of_ := of_.below b; replace m2 := cell_later b m2; replace m3 := cell_later b m3; replace B := B.trans (b.mono B.size); clear b
  have c_g5 := g5.cell; have f_g5 := g5.free; have a_g5 := fun o => (g5.alloc o).cell; have d_g5 := fun o o2 => ((g5.alloc o).alloc o2).cell; have e_g5 := fun o => (g5.alloc o).free
  clear m0 m1
  go_upto_region 7 with (fail)
  have HG := Lib.hid (And.intro g3 (And.intro om (And.intro of_ B)))
  have hp3 := g4.lt; have hp4 := g5.lt
  have hne4 : wa2.heap.size ≠ w.heap.size + 1 + 1 := by omega
  have hne5 : wa3.heap.size ≠ w.heap.size + 1 + 1 := by omega
  have AL : ∀ d, d ≤ 1 → Bx ((wsF wa4 (w.heap.size + 1 + 1) (.slice tA tn tc) (.slice oA on oc) (.slice sA sn sc)) d) wa2.heap.size 26 #[.slice tA tn tc, .slice oA on oc, .slice sA sn sc] ∧ Bx ((wsF wa4 (w.heap.size + 1 + 1) (.slice tA tn tc) (.slice oA on oc) (.slice sA sn sc)) d) wa3.heap.size 72 #[.int .i64 (q : Int), .slice (some ⟨gf, 0, none⟩) nf cf] ∧ ((wsF wa4 (w.heap.size + 1 + 1) (.slice tA tn tc) (.slice oA on oc) (.slice sA sn sc)) d).cell? ad = some y ∧ ((wsF wa4 (w.heap.size + 1 + 1) (.slice tA tn tc) (.slice oA on oc) (.slice sA sn sc)) d).cell? bd = some (.int .u8 kd.toNat) := by
    intro d hd
    rcases d with _ | d
    · exact ⟨g4, g5, m2, m3⟩
    · refine ⟨?_, ?_, ?_, ?_⟩
      · exact ((g4.far (p := ⟨w.heap.size + 1 + 1, 0, none⟩) hne4 _).far (p := ⟨w.heap.size + 1 + 1, 1, none⟩) hne4 _).far (p := ⟨w.heap.size + 1 + 1, 2, none⟩) hne4 _
      · exact ((g5.far (p := ⟨w.heap.size + 1 + 1, 0, none⟩) hne5 _).far (p := ⟨w.heap.size + 1 + 1, 1, none⟩) hne5 _).far (p := ⟨w.heap.size + 1 + 1, 2, none⟩) hne5 _
      · exact cell_far (cell_far (cell_far m2 (by show _ ≠ w.heap.size + 1 + 1; omega)) (by show _ ≠ w.heap.size + 1 + 1; omega)) (by show _ ≠ w.heap.size + 1 + 1; omega)
      · exact cell_far (cell_far (cell_far m3 (by show _ ≠ w.heap.size + 1 + 1; omega)) (by show _ ≠ w.heap.size + 1 + 1; omega)) (by show _ ≠ w.heap.size + 1 + 1; omega)
  have AA := Lib.hid (fun x : FXN (FL [14] (wsF wa4 (w.heap.size + 1 + 1) (.slice tA tn tc) (.slice oA on oc) (.slice sA sn sc)) 14 1) => FL.all (ks := [14]) (Ws := (wsF wa4 (w.heap.size + 1 + 1) (.slice tA tn tc) (.slice oA on oc) (.slice sA sn sc))) (p := fun W => Bx W wa2.heap.size 26 #[.slice tA tn tc, .slice oA on oc, .slice sA sn sc] ∧ Bx W wa3.heap.size 72 #[.int .i64 (q : Int), .slice (some ⟨gf, 0, none⟩) nf cf] ∧ W.cell? ad = some y ∧ W.cell? bd = some (.int .u8 kd.toNat)) AL x)
  have ca := fun x : FXN (FL [14] (wsF wa4 (w.heap.size + 1 + 1) (.slice tA tn tc) (.slice oA on oc) (.slice sA sn sc)) 14 1) => (AA.out x).1.cell
  have cb := fun x : FXN (FL [14] (wsF wa4 (w.heap.size + 1 + 1) (.slice tA tn tc) (.slice oA on oc) (.slice sA sn sc)) 14 1) => (AA.out x).2.1.cell
  have cc := fun x : FXN (FL [14] (wsF wa4 (w.heap.size + 1 + 1) (.slice tA tn tc) (.slice oA on oc) (.slice sA sn sc)) 14 1) => (AA.out x).2.2.1
  have cd := fun x : FXN (FL [14] (wsF wa4 (w.heap.size + 1 + 1) (.slice tA tn tc) (.slice oA on oc) (.slice sA sn sc)) 14 1) => (AA.out x).2.2.2
  haveI : Nonempty (FXN (FL [14] (wsF wa4 (w.heap.size + 1 + 1) (.slice tA tn tc) (.slice oA on oc) (.slice sA sn sc)) 14 1)) := ⟨⟨_, _, FL.start⟩⟩
  clear m2 m3 c_g1 c_g2 f_g1 f_g2 a_g1 a_g2 d_g1 d_g2 e_g1 e_g2 c_g4 f_g4 a_g4 d_g4 e_g4 c_g5 f_g5 a_g5 d_g5 e_g5 a_g3 d_g3 e_g3
  refine wp_region_N (FL [14] (wsF wa4 (w.heap.size + 1 + 1) (.slice tA tn tc) (.slice oA on oc) (.slice sA sn sc)) 14 1) [14, 14] FL.dep (by kernel_rfl) (by kernel_rfl) (by kernel_rfl) FL.start ?_
  iterate 14 (refine wpN_read FL.dep rfl (by decide) ?_; go_big_quiet_step (fail); refine wpQuiet_nil ?_)
  refine wpN_storeD FL.dep rfl 26 (.tmp 6) (.tmp 40) rfl (by rfl) (p := .pointer (some ⟨w.heap.size + 1 + 1, 0, none⟩)) (u := .agg #[.slice tA tn tc, .slice oA on oc, .slice sA sn sc]) (by rfl) (by rfl) [] (by kernel_rfl) (fun f W hF h0 h1 => ?_) ?_
  · obtain ⟨rfl, h2⟩ := FL.step (i := 0) rfl (by decide) hF h0 (by intro p hp; omega) (by omega)
    refine ⟨_, ?_, h2⟩
    simp [go_sem, wsF, c_g3, f_g3]
  simp only [Act.put, List.setIfInBounds_toArray, List.set_cons_zero, List.set_cons_succ]
  iterate 3 (refine wpN_read FL.dep rfl (by decide) ?_; go_big_quiet_step (fail); refine wpQuiet_nil ?_)
  show ∀ w', _ → _
  intro w' hw'
  obtain rfl := FL.done hw'
  have g3d : Bx wa4.drew (w.heap.size + 1 + 1) 26 #[.slice none 0 0, .slice none 0 0, .slice none 0 0] := g3
  have omd : OwnM wa4.drew wa1.heap.size 67 (.slice tA tn tc) (.slice oA on oc) (.slice sA sn sc) m := ⟨om.t, om.o, om.s⟩
  have ofd : OwnF wa4.drew wa1.heap.size (.slice oA on oc) m.objs n2 gf := of_
  have Bd := B.drew
  have HM := Lib.hid (OwnM.set3 (a := .slice tA tn tc) (b := .slice oA on oc) (c := .slice sA sn sc) (OwnM.mono omd hz1) g3d)
  have HF := Lib.hid ((((OwnF.mono ofd hz1).set (i := 0) (u := .slice tA tn tc) g3d (by decide) (by decide)).set (i := 1) (u := .slice oA on oc) (g3d.set (i := 0) (.slice tA tn tc)) (by decide) (by decide)).set (i := 2) (u := .slice sA sn sc) ((g3d.set (i := 0) (.slice tA tn tc)).set (i := 1) (.slice oA on oc)) (by decide) (by decide))
  have BB := Lib.hid (((Bd.setCell (p := ⟨w.heap.size + 1 + 1, 0, none⟩) (by simp; omega) (.slice tA tn tc)).setCell (p := ⟨w.heap.size + 1 + 1, 1, none⟩) (by simp; omega) (.slice oA on oc)).setCell (p := ⟨w.heap.size + 1 + 1, 2, none⟩) (by simp; omega) (.slice sA sn sc))
  have g3' := ((g3d.set (i := 0) (.slice tA tn tc)).set (i := 1) (.slice oA on oc)).set (i := 2) (.slice sA sn sc)
  have c3' := g3'.cell
  clear omd ofd Bd g3d this ca cb cc cd AL AA om of_ g1 g2 g3 g4 g5 B hw' HG c_g3 f_g3
  show _
  generalize hW : (((wa4.drew.setCell ⟨w.heap.size + 1 + 1, 0, none⟩ (.slice tA tn tc)).setCell ⟨w.heap.size + 1 + 1, 1, none⟩ (.slice oA on oc)).setCell ⟨w.heap.size + 1 + 1, 2, none⟩ (.slice sA sn sc)) = W4 at c3' HM HF BB
  have hw4 : (wsF wa4 (w.heap.size + 1 + 1) (.slice tA tn tc) (.slice oA on oc) (.slice sA sn sc)) [14].length = W4 := hW
  rw [hw4]
  clear hW hw4 g3'
  go_wp2
  refine bodyPost_ret (v := .tuple #[.agg #[.slice tA tn tc, .slice oA on oc, .slice sA sn sc], .pointer (some ⟨gf, i, none⟩), .int .u8 kd.toNat, .int .i64 0]) (by simp [results, Try.results39, go_sem, c3']) rfl ?_
  exact ⟨_, _, _, _, rfl, HM.out, HF.out, BB.out⟩
end Go.Proofs.Ytgjpohhafmkhcaa
