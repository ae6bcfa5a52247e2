/- Contracts of models: a field. -/
import Derived.Test.YtgjpohhafmkhcaaC20n
set_option linter.unusedVariables false
set_option linter.unusedSimpArgs false
namespace Go.Proofs.Ytgjpohhafmkhcaa
open Go.RowKit L02 L13 L18 L20

/-- objects of the call's own, of which number n has its fields in block gf -/
def OwnF (w : World) (base : Nat) (v : Value) (L : List Ob) (n gf : Nat) : Prop := ∃ (vs : List Value) (nf cf : Nat), vs.length = L.length ∧ w.ownsRow base 72 2 v L.length (obC L vs) ∧ (∀ (i : Nat) x o, vs[i]? = some x → L[i]? = some o → OwnW w base 29 x o.fs) ∧
  (∀ (i j : Nat) x y, i ≠ j → vs[i]? = some x → vs[j]? = some y → x.ownBlock = none ∨ x.ownBlock ≠ y.ownBlock) ∧ vs[n]? = some (.slice (some ⟨gf, 0, none⟩) nf cf)
theorem OwnF.own {w : World} {base n gf : Nat} {v : Value} {L : List Ob} (h : OwnF w base v L n gf) : OwnO w base v L := by
  obtain ⟨vs, nf, cf, h1, h2, h4, h5, _⟩ := h; exact ⟨vs, h1, h2, h4, h5⟩
theorem OwnF.below {w w' : World} {base n gf : Nat} {v : Value} {L : List Ob} (h : OwnF w base v L n gf) (hb : Below w.heap.size w w') : OwnF w' base v L n gf := by
  obtain ⟨vs, nf, cf, h1, h2, h4, h5, h6⟩ := h; exact ⟨vs, nf, cf, h1, own_below h2 hb, fun i x l h5 h6 => (h4 i x l h5 h6).below hb, h5, h6⟩
theorem OwnF.mono {w : World} {base base' n gf : Nat} {v : Value} {L : List Ob} (h : OwnF w base v L n gf) (hb : base' ≤ base) : OwnF w base' v L n gf := by
  obtain ⟨vs, nf, cf, h1, h2, h4, h5, h6⟩ := h; exact ⟨vs, nf, cf, h1, own_mono h2 hb, fun i x l h5 h6 => own_mono (h4 i x l h5 h6) hb, h5, h6⟩
theorem OwnF.set {w : World} {B p i n gf : Nat} {v u : Value} {L : List Ob} {t : TypeId} {cs : Array Value} (h : OwnF w B v L n gf) (hg : Bx w p t cs) (h1 : 72 ≠ t) (h2 : 29 ≠ t) : OwnF (w.setCell ⟨p, i, none⟩ u) B v L n gf := by
  obtain ⟨vs, nf, cf, a1, a2, a4, a5, a6⟩ := h; exact ⟨vs, nf, cf, a1, own_set a2 hg h1, fun i x l h5 h6 => own_set (a4 i x l h5 h6) hg h2, a5, a6⟩
theorem OwnF.cell {w : World} {base n gf i : Nat} {v : Value} {L : List Ob} {o : Ob} {x : UInt64} (h : OwnF w base v L n gf) (ho : L[n]? = some o) (hx : o.fs[i]? = some x) :
    w.cell? ⟨gf, i, none⟩ = some (.int .u64 x.toNat) ∧ w.frozen? ⟨gf, i, none⟩ = false ∧ base ≤ gf ∧ gf < w.heap.size := by
  obtain ⟨vs, nf, cf, h1, h2, h4, h5, h6⟩ := h
  have hr := h4 n _ _ h6 ho
  have hi : i < o.fs.length := (List.getElem?_eq_some_iff.1 hx).1
  have hn : nf = o.fs.length := by
    obtain ⟨g', cap, cur, hv, _⟩ := own_form hr (by omega)
    injection hv
  subst hn
  have hl := hr.lt gf rfl
  have hc := Rd.cell (OwnW.rd hr) (j := i) (u := u64 x) (by rw [List.getElem?_map, hx]; rfl)
  refine ⟨?_, hr.frozenAt i, hl.1, hl.2⟩
  simpa [cellAt, u64] using hc
/-- where an own object lies; x the slice of its fields -/
theorem OwnO.at_ {w : World} {base : Nat} {v : Value} {L : List Ob} (h : OwnO w base v L) {n : Nat} {o : Ob} (ho : L[n]? = some o) (hf : 0 < o.fs.length) :
    ∃ b q gf nf cf, (∀ W, (Instr.indexAt 23 v (.int .i64 (n : Int))).run Try.prog W = .ok (.pointer (some ⟨b, q, none⟩)) W) ∧ w.cell? ⟨b, q, none⟩ = some (.int .i64 o.ty) ∧ w.cell? ⟨b, q + 1, none⟩ = some (.slice (some ⟨gf, 0, none⟩) nf cf) ∧ b < w.heap.size ∧ OwnF w base v L n gf ∧ nf = o.fs.length ∧
      ∀ i, i < o.fs.length → ∀ W, (Instr.indexAt 70 (.slice (some ⟨gf, 0, none⟩) nf cf) (.int .i64 (i : Int))).run Try.prog W = .ok (.pointer (some ⟨gf, i, none⟩)) W := by
  obtain ⟨vs, h1, h2, h4, h5⟩ := h
  have hk : n < L.length := (List.getElem?_eq_some_iff.1 ho).1
  have hv : vs[n]? = some vs[n] := List.getElem?_eq_getElem (by omega)
  have hr := h4 n _ _ hv ho
  obtain ⟨gf, cap, cur, hvv, _⟩ := own_form hr hf
  have hix := fun W => Rd.ixN (P := Try.prog) (Rd.of_own h2) Try.underlying23 size_obj hk W
  obtain ⟨b, q, c, rfl, hb, hc, hcell⟩ := Rd.form (Rd.of_own h2) (by omega)
  obtain ⟨c0, c1⟩ := obC_get ho hv
  rw [hvv] at c1 hv hr
  refine ⟨b, q + n * 2, gf, _, cap, fun W => hix W, hcell _ _ c0, hcell _ _ c1, hb, ⟨vs, _, cap, h1, h2, h4, h5, hv⟩, rfl, fun i hi W => ?_⟩
  have := Rd.ixN (P := Try.prog) (OwnW.rd hr) Try.underlying70 one_u64 hi W
  simpa [cellAt] using this
theorem obC_setFs : ∀ {L : List Ob} {vs : List Value} {n : Nat} {o : Ob} {f : List UInt64}, L[n]? = some o → obC (L.set n ⟨o.ty, f⟩) vs = obC L vs
  | [], _, _, _, _, h => by simp at h
  | o :: L, [], 0, o', f, h => rfl
  | o :: L, x :: vs, 0, o', f, h => by simp at h; subst h; rfl
  | o :: L, [], n + 1, o', f, h => rfl
  | o :: L, x :: vs, n + 1, o', f, h => by
    rw [List.set_cons_succ, obC, obC, obC_setFs (by simpa using h)]
/-- a word is stored into a field -/
theorem OwnM.storeF {w : World} {B n gf i : Nat} {tv ov sv : Value} {m : Mo} {o : Ob} {x0 : UInt64} (h : OwnM w B 67 tv ov sv m) (hf : OwnF w B ov m.objs n gf) (ho : m.objs[n]? = some o) (hx : o.fs[i]? = some x0) (x : UInt64) :
    OwnM (w.setCell ⟨gf, i, none⟩ (.int .u64 x.toNat)) B 67 tv ov sv (putF m n i x) ∧ OwnF (w.setCell ⟨gf, i, none⟩ (.int .u64 x.toNat)) B ov (putF m n i x).objs n gf ∧ w.grownBy (w.setCell ⟨gf, i, none⟩ (.int .u64 x.toNat)) (some gf) := by
  obtain ⟨vs, nf, cf, h1, h2, h4, h5, h6⟩ := hf
  have hob : ob m n = o := by simp [ob, List.getD_eq_getElem?_getD, ho]
  have hr := h4 n _ _ h6 ho
  have hi : i < o.fs.length := (List.getElem?_eq_some_iff.1 hx).1
  have hn : nf = o.fs.length := by
    obtain ⟨g', cap, cur, hv, _⟩ := own_form hr (by omega)
    injection hv
  subst hn
  have hst := World.ownsRow.stored hr i (u64 x)
  have hg := hst.2
  have ho2 : (w.setCell ⟨gf, i, none⟩ (u64 x)).ownsRow B 72 2 ov m.objs.length (obC m.objs vs) := World.ownsRow.kept h2 hg (own_unlike h2 hr (by decide))
  have hF : OwnF (w.setCell ⟨gf, i, none⟩ (u64 x)) B ov (putF m n i x).objs n gf := by
    refine ⟨vs, _, cf, by simp [L20.putF, h1], ?_, fun j y l hy hl => ?_, h5, h6⟩
    · show World.ownsRow _ B _ 2 ov (m.objs.set n ⟨(ob m n).ty, (ob m n).fs.set i x⟩).length (obC (m.objs.set n ⟨(ob m n).ty, (ob m n).fs.set i x⟩) vs)
      rw [hob, obC_setFs ho, List.length_set]; exact ho2
    · by_cases hj : j = n
      · subst hj
        have e1 : (putF m j i x).objs[j]? = some ⟨(ob m j).ty, (ob m j).fs.set i x⟩ := by
          show (m.objs.set j _)[j]? = _
          rw [List.getElem?_set_self (List.getElem?_eq_some_iff.1 ho).1]
        rw [e1] at hl; injection hl with hl; subst hl
        rw [h6] at hy; injection hy with hy; subst hy
        refine OwnW.of hst.1 ?_
        rw [hob]; simp only [List.map_set]
      · have e1 : (putF m n i x).objs[j]? = m.objs[j]? := by
          show (m.objs.set n _)[j]? = _
          rw [List.getElem?_set_ne (Ne.symm hj)]
        rw [e1] at hl
        exact World.ownsRow.kept (h4 j y l hy hl) hg (h5 j n y _ hj hy h6)
  exact ⟨⟨OwnT.kept h.t hr hg (by decide) (by decide), hF.own, World.ownsRow.kept h.s hg (own_unlike h.s hr (by decide))⟩, hF, hg⟩

set_option maxRecDepth 100000 in
set_option maxHeartbeats 4000000 in
theorem field_no (tv ov sv : Value) (m : Mo) (sl g n : Int) (r : Int) (hr : r = kErrF m sl g n) (h0 : r ≠ 0) (w : World) (h : Mod w tv ov sv m) :
    Calls Try.prog 39 #[.agg #[tv, ov, sv], .agg #[.int .i64 sl, .int .i64 g], .int .i64 n] w fun e w' => e = .returned (.tuple #[.agg #[.slice none 0 0, .slice none 0 0, .slice none 0 0], .pointer none, .int .u8 0, .int .i64 r]) ∧ Below w.heap.size w w' := by
  have B : Below w.heap.size w w := Below.refl _ _
  have H := Lib.hid h
  by_cases ha : asked m sl g = 0
  · have hn : ¬ (0 ≤ n ∧ n < (kinds m sl).length) := fun hh => h0 (by rw [hr, kErrF_ok ha hh])
    have hr2 : r = 2 := by rw [hr, kErrF_arg ha hn]
    have hask := asked_ok ha
    obtain ⟨c0, hr0, k, s, n', o, t, hk, hk16, hs, hu, hg, hso, hat, hown, ho, hob, hoo, ht, htt, hkinds, hfl⟩ := hask
    have OT := Lib.hid (fun w h => open20_ok tv ov sv m sl g n' ha hown w h)
    subst hr2
    rw [hkinds] at hn
    have HO := Lib.hid ho; have HFL := Lib.hid hfl
    clear ha hr h0 c0 hr0 hs hu hg hso hat hown ho hob hoo ht htt hkinds h hk hfl
    go_enter Try.func39, Try.ntmps39
    go_upto_region 1 with (fail)
    refine wp_gen (fun Wv => Bx Wv (w.heap.size) (26) (#[tv, ov, sv]) ∧ Bx Wv (w.heap.size + 1) (28) (#[.int .i64 sl, .int .i64 g]) ∧ Bx Wv (w.heap.size + 1 + 1) (26) (#[.slice none 0 0, .slice none 0 0, .slice none 0 0]) ∧ Below w.heap.size w Wv) ⟨((((Bx.at_ (by simp)).alloc _).alloc _)), (((Bx.at_ (by simp)).alloc _)), ((Bx.at_ (by simp))), ((((Below.refl _ w).alloc (by simp <;> omega) _).alloc (by simp <;> omega) _).alloc (by simp <;> omega) _)⟩ ?_
    rintro wa1 ⟨g1, g2, g3, b⟩
    replace B := B.trans (b.mono B.size); clear b
    have c_g1 := g1.cell; have f_g1 := g1.free; have a_g1 := fun o => (g1.alloc o).cell; have d_g1 := fun o o2 => ((g1.alloc o).alloc o2).cell; have e_g1 := fun o => (g1.alloc o).free
    have c_g2 := g2.cell; have f_g2 := g2.free; have a_g2 := fun o => (g2.alloc o).cell; have d_g2 := fun o o2 => ((g2.alloc o).alloc o2).cell; have e_g2 := fun o => (g2.alloc o).free
    have c_g3 := g3.cell; have f_g3 := g3.free; have a_g3 := fun o => (g3.alloc o).cell; have d_g3 := fun o o2 => ((g3.alloc o).alloc o2).cell; have e_g3 := fun o => (g3.alloc o).free
    go_wp2_with fail
    refine (OT.out _ (H.out.below B)).mono ?_
    rintro e wa2 ⟨t', o', s', rfl, om, b⟩
    try clear c_g1 f_g1 a_g1 d_g1 e_g1
    replace g1 := g1.below b; have c_g1 := g1.cell; have f_g1 := g1.free; have a_g1 := fun o => (g1.alloc o).cell; have d_g1 := fun o o2 => ((g1.alloc o).alloc o2).cell; have e_g1 := fun o => (g1.alloc o).free; try clear c_g2 f_g2 a_g2 d_g2 e_g2
    replace g2 := g2.below b; have c_g2 := g2.cell; have f_g2 := g2.free; have a_g2 := fun o => (g2.alloc o).cell; have d_g2 := fun o o2 => ((g2.alloc o).alloc o2).cell; have e_g2 := fun o => (g2.alloc o).free; try clear c_g3 f_g3 a_g3 d_g3 e_g3
    replace g3 := g3.below b; have c_g3 := g3.cell; have f_g3 := g3.free; have a_g3 := fun o => (g3.alloc o).cell; have d_g3 := fun o o2 => ((g3.alloc o).alloc o2).cell; have e_g3 := fun o => (g3.alloc o).free; replace B := B.trans (b.mono B.size); clear b
    obtain ⟨⟨tA, tn, tc, rfl⟩, ⟨oA, on, oc, rfl⟩, ⟨sA, sn, sc, rfl⟩⟩ := om.forms
    go_upto_region 2 with (fail)
    refine wp_gen (fun Wv => Bx Wv (wa2.heap.size) (26) (#[.slice tA tn tc, .slice oA on oc, .slice sA sn sc]) ∧ Below wa2.heap.size wa2 Wv) ⟨((Bx.at_ (by simp))), ((Below.refl _ wa2).alloc (by simp <;> omega) _)⟩ ?_
    rintro wa3 ⟨g4, b⟩
    try clear c_g1 f_g1 a_g1 d_g1 e_g1
    replace g1 := g1.below b; have c_g1 := g1.cell; have f_g1 := g1.free; have a_g1 := fun o => (g1.alloc o).cell; have d_g1 := fun o o2 => ((g1.alloc o).alloc o2).cell; have e_g1 := fun o => (g1.alloc o).free; try clear c_g2 f_g2 a_g2 d_g2 e_g2
    replace g2 := g2.below b; have c_g2 := g2.cell; have f_g2 := g2.free; have a_g2 := fun o => (g2.alloc o).cell; have d_g2 := fun o o2 => ((g2.alloc o).alloc o2).cell; have e_g2 := fun o => (g2.alloc o).free; try clear c_g3 f_g3 a_g3 d_g3 e_g3
    replace g3 := g3.below b; have c_g3 := g3.cell; have f_g3 := g3.free; have a_g3 := fun o => (g3.alloc o).cell; have d_g3 := fun o o2 => ((g3.alloc o).alloc o2).cell; have e_g3 := fun o => (g3.alloc o).free; replace om := om.below b; replace B := B.trans (b.mono B.size); clear b
    have c_g4 := g4.cell; have f_g4 := g4.free; have a_g4 := fun o => (g4.alloc o).cell; have d_g4 := fun o o2 => ((g4.alloc o).alloc o2).cell; have e_g4 := fun o => (g4.alloc o).free
    have HOM := Lib.hid om
    obtain ⟨ob_, oq, x, o2, ix, m0, m1, ho2, hx, hob2⟩ := om.rd.o.at_ (k := n') (List.getElem?_eq_some_iff.1 HO.out).1
    obtain rfl : o2 = o := by have := ho2.out; rw [HO.out] at this; injection this with e; exact e.symm
    have lx := Rd.len hx.out Try.underlying70
    obtain ⟨xA, xn, xc, rfl⟩ : ∃ A n c, x = .slice A n c := by obtain ⟨A, c, e, _⟩ := hx.out; exact ⟨A, _, c, e⟩
    obtain ⟨nf, hnf⟩ : ∃ N, N = o2.fs.length := ⟨_, rfl⟩
    rw [← hnf] at lx
    have hcase : n < 0 ∨ ¬ n < 0 ∧ (nf : Int) ≤ n := by have := HFL.out; omega
    clear om hx ho2 hn hnf
    go_upto_region 5 with (fail)
    refine wp_gen (fun Wv => Bx Wv (wa3.heap.size) (72) (#[.int .i64 o2.ty, .slice xA xn xc]) ∧ Below wa3.heap.size wa3 Wv) ⟨((Bx.at_ (by simp))), ((Below.refl _ wa3).alloc (by simp <;> omega) _)⟩ ?_
    rintro wa4 ⟨g5, b⟩
    try clear c_g1 f_g1 a_g1 d_g1 e_g1
    replace g1 := g1.below b; have c_g1 := g1.cell; have f_g1 := g1.free; have a_g1 := fun o => (g1.alloc o).cell; have d_g1 := fun o o2 => ((g1.alloc o).alloc o2).cell; have e_g1 := fun o => (g1.alloc o).free; try clear c_g2 f_g2 a_g2 d_g2 e_g2
    replace g2 := g2.below b; have c_g2 := g2.cell; have f_g2 := g2.free; have a_g2 := fun o => (g2.alloc o).cell; have d_g2 := fun o o2 => ((g2.alloc o).alloc o2).cell; have e_g2 := fun o => (g2.alloc o).free; try clear c_g3 f_g3 a_g3 d_g3 e_g3
    replace g3 := g3.below b; have c_g3 := g3.cell; have f_g3 := g3.free; have a_g3 := fun o => (g3.alloc o).cell; have d_g3 := fun o o2 => ((g3.alloc o).alloc o2).cell; have e_g3 := fun o => (g3.alloc o).free; try clear c_g4 f_g4 a_g4 d_g4 e_g4
    replace g4 := g4.below b; have c_g4 := g4.cell; have f_g4 := g4.free; have a_g4 := fun o => (g4.alloc o).cell; have d_g4 := fun o o2 => ((g4.alloc o).alloc o2).cell; have e_g4 := fun o => (g4.alloc o).free; replace B := B.trans (b.mono B.size); clear b
    have c_g5 := g5.cell; have f_g5 := g5.free; have a_g5 := fun o => (g5.alloc o).cell; have d_g5 := fun o o2 => ((g5.alloc o).alloc o2).cell; have e_g5 := fun o => (g5.alloc o).free
    clear m0 m1
    rcases hcase with h1 | ⟨h1, h2⟩
    all_goals
      go_wp2
      refine bodyPost_ret (v := .tuple #[.agg #[.slice none 0 0, .slice none 0 0, .slice none 0 0], .pointer none, .int .u8 0, .int .i64 2]) (by simp [results, Try.results39, go_sem, c_g3, f_g3]) rfl ⟨rfl, ?_⟩
      (repeat (first | refine Below.setCell ?_ (by first | exact Nat.le_refl _ | (simp <;> omega)) _ | refine Below.alloc ?_ (by first | exact B.size | (have := B.size; simp <;> omega)) _)); exact B
  · have hr1 : r = asked m sl g := by rw [hr, kErrF_no ha]
    have OT := Lib.hid (fun w h => open20_no tv ov sv m sl g r hr1 h0 w h)
    have hne : (r != 0) = true := by rw [bne_iff_ne]; exact h0
    clear hr hr1 ha h0 h
    go_enter Try.func39, Try.ntmps39
    go_upto_region 1 with (fail)
    refine wp_gen (fun Wv => Bx Wv (w.heap.size) (26) (#[tv, ov, sv]) ∧ Bx Wv (w.heap.size + 1) (28) (#[.int .i64 sl, .int .i64 g]) ∧ Bx Wv (w.heap.size + 1 + 1) (26) (#[.slice none 0 0, .slice none 0 0, .slice none 0 0]) ∧ Below w.heap.size w Wv) ⟨((((Bx.at_ (by simp)).alloc _).alloc _)), (((Bx.at_ (by simp)).alloc _)), ((Bx.at_ (by simp))), ((((Below.refl _ w).alloc (by simp <;> omega) _).alloc (by simp <;> omega) _).alloc (by simp <;> omega) _)⟩ ?_
    rintro wa1 ⟨g1, g2, g3, b⟩
    replace B := B.trans (b.mono B.size); clear b
    have c_g1 := g1.cell; have f_g1 := g1.free; have a_g1 := fun o => (g1.alloc o).cell; have d_g1 := fun o o2 => ((g1.alloc o).alloc o2).cell; have e_g1 := fun o => (g1.alloc o).free
    have c_g2 := g2.cell; have f_g2 := g2.free; have a_g2 := fun o => (g2.alloc o).cell; have d_g2 := fun o o2 => ((g2.alloc o).alloc o2).cell; have e_g2 := fun o => (g2.alloc o).free
    have c_g3 := g3.cell; have f_g3 := g3.free; have a_g3 := fun o => (g3.alloc o).cell; have d_g3 := fun o o2 => ((g3.alloc o).alloc o2).cell; have e_g3 := fun o => (g3.alloc o).free
    go_wp2_with fail
    refine (OT.out _ (H.out.below B)).mono ?_
    rintro e wa2 ⟨rfl, b⟩
    try clear c_g1 f_g1 a_g1 d_g1 e_g1
    replace g1 := g1.below b; have c_g1 := g1.cell; have f_g1 := g1.free; have a_g1 := fun o => (g1.alloc o).cell; have d_g1 := fun o o2 => ((g1.alloc o).alloc o2).cell; have e_g1 := fun o => (g1.alloc o).free; try clear c_g2 f_g2 a_g2 d_g2 e_g2
    replace g2 := g2.below b; have c_g2 := g2.cell; have f_g2 := g2.free; have a_g2 := fun o => (g2.alloc o).cell; have d_g2 := fun o o2 => ((g2.alloc o).alloc o2).cell; have e_g2 := fun o => (g2.alloc o).free; try clear c_g3 f_g3 a_g3 d_g3 e_g3
    replace g3 := g3.below b; have c_g3 := g3.cell; have f_g3 := g3.free; have a_g3 := fun o => (g3.alloc o).cell; have d_g3 := fun o o2 => ((g3.alloc o).alloc o2).cell; have e_g3 := fun o => (g3.alloc o).free; replace B := B.trans (b.mono B.size); clear b
    go_upto_region 2 with (fail)
    refine wp_gen (fun Wv => Bx Wv (wa2.heap.size) (26) (#[.slice none 0 0, .slice none 0 0, .slice none 0 0]) ∧ Below wa2.heap.size wa2 Wv) ⟨((Bx.at_ (by simp))), ((Below.refl _ wa2).alloc (by simp <;> omega) _)⟩ ?_
    rintro wa3 ⟨g4, b⟩
    try clear c_g1 f_g1 a_g1 d_g1 e_g1
    replace g1 := g1.below b; have c_g1 := g1.cell; have f_g1 := g1.free; have a_g1 := fun o => (g1.alloc o).cell; have d_g1 := fun o o2 => ((g1.alloc o).alloc o2).cell; have e_g1 := fun o => (g1.alloc o).free; try clear c_g2 f_g2 a_g2 d_g2 e_g2
    replace g2 := g2.below b; have c_g2 := g2.cell; have f_g2 := g2.free; have a_g2 := fun o => (g2.alloc o).cell; have d_g2 := fun o o2 => ((g2.alloc o).alloc o2).cell; have e_g2 := fun o => (g2.alloc o).free; try clear c_g3 f_g3 a_g3 d_g3 e_g3
    replace g3 := g3.below b; have c_g3 := g3.cell; have f_g3 := g3.free; have a_g3 := fun o => (g3.alloc o).cell; have d_g3 := fun o o2 => ((g3.alloc o).alloc o2).cell; have e_g3 := fun o => (g3.alloc o).free; replace B := B.trans (b.mono B.size); clear b
    have c_g4 := g4.cell; have f_g4 := g4.free; have a_g4 := fun o => (g4.alloc o).cell; have d_g4 := fun o o2 => ((g4.alloc o).alloc o2).cell; have e_g4 := fun o => (g4.alloc o).free
    go_wp2
    refine bodyPost_ret (v := .tuple #[.agg #[.slice none 0 0, .slice none 0 0, .slice none 0 0], .pointer none, .int .u8 0, .int .i64 r]) (by simp [results, Try.results39, go_sem, c_g3, f_g3]) rfl ⟨rfl, ?_⟩
    (repeat (first | refine Below.setCell ?_ (by first | exact Nat.le_refl _ | (simp <;> omega)) _ | refine Below.alloc ?_ (by first | exact B.size | (have := B.size; simp <;> omega)) _)); exact B
end Go.Proofs.Ytgjpohhafmkhcaa
