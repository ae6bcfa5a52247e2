/- Contracts of the reference of models: a new handle. -/
import Derived.Test.YtgjpohhafmkhcaaC20w
set_option linter.unusedVariables false
set_option linter.unusedSimpArgs false
namespace Go.Proofs.Ytgjpohhafmkhcaa
open Go.RowKit L02 L13 L18 L20

set_option maxRecDepth 100000 in
set_option maxHeartbeats 8000000 in
theorem given_no (tv ov sv : Value) (m : Mo) (n : Int) (hc : chk m = 0) (hnx : next m.slots = none) (w : World) (h : Mod w tv ov sv m) :
    Calls Try.prog 45 #[.agg #[tv, ov, sv], .int .i64 n] w fun e w' => e = .returned (.tuple #[.agg #[.slice none 0 0, .slice none 0 0, .slice none 0 0], .agg #[.int .i64 0, .int .i64 0], .bool false]) ∧ Below w.heap.size w w' := by
  have B : Below w.heap.size w w := Below.refl _ _
  have H := Lib.hid h
  obtain ⟨_, _, h16, _, _, hsl⟩ := chk_ok hc
  have hgen : ∀ s ∈ m.slots, s.gen ≤ 2147483647 := fun s hs => (hsl s hs).1.2
  have TT := Lib.hid (fun w h => Twin_any tv ov sv m (small_chk hc) w h)
  have NX := Lib.hid (fun w h => NextR_any sv m.slots (-1) (by rw [nextI, hnx]) w h hgen)
  clear h hc hnx h16 hsl hgen
  go_enter Try.func45, Try.ntmps45
  go_upto_region 1 with (fail)
  refine wp_gen (fun Wv => Bx Wv (w.heap.size) (26) (#[tv, ov, sv]) ∧ Bx Wv (w.heap.size + 1) (26) (#[.slice none 0 0, .slice none 0 0, .slice none 0 0]) ∧ Bx Wv (w.heap.size + 1 + 1) (28) (#[.int .i64 0, .int .i64 0]) ∧ Below w.heap.size w Wv) ⟨((((Bx.at_ (by simp)).alloc _).alloc _)), (((Bx.at_ (by simp)).alloc _)), ((Bx.at_ (by simp))), ((((Below.refl _ w).alloc (by simp <;> omega) _).alloc (by simp <;> omega) _).alloc (by simp <;> omega) _)⟩ ?_
  rintro wa1 ⟨g1, g3, g5, b⟩
  replace B := B.trans (b.mono B.size); clear b
  have c_g1 := g1.cell; have f_g1 := g1.free; have a_g1 := fun o => (g1.alloc o).cell; have d_g1 := fun o o2 => ((g1.alloc o).alloc o2).cell; have e_g1 := fun o => (g1.alloc o).free
  have c_g3 := g3.cell; have f_g3 := g3.free; have a_g3 := fun o => (g3.alloc o).cell; have d_g3 := fun o o2 => ((g3.alloc o).alloc o2).cell; have e_g3 := fun o => (g3.alloc o).free
  have c_g5 := g5.cell; have f_g5 := g5.free; have a_g5 := fun o => (g5.alloc o).cell; have d_g5 := fun o o2 => ((g5.alloc o).alloc o2).cell; have e_g5 := fun o => (g5.alloc o).free
  go_wp2_with fail
  refine (TT.out _ (H.out.below B)).mono ?_
  rintro e wa2 ⟨t', o', s', rfl, om, b⟩
  try clear c_g1 f_g1 a_g1 d_g1 e_g1
  replace g1 := g1.below b; have c_g1 := g1.cell; have f_g1 := g1.free; have a_g1 := fun o => (g1.alloc o).cell; have d_g1 := fun o o2 => ((g1.alloc o).alloc o2).cell; have e_g1 := fun o => (g1.alloc o).free; try clear c_g3 f_g3 a_g3 d_g3 e_g3
  replace g3 := g3.below b; have c_g3 := g3.cell; have f_g3 := g3.free; have a_g3 := fun o => (g3.alloc o).cell; have d_g3 := fun o o2 => ((g3.alloc o).alloc o2).cell; have e_g3 := fun o => (g3.alloc o).free; try clear c_g5 f_g5 a_g5 d_g5 e_g5
  replace g5 := g5.below b; have c_g5 := g5.cell; have f_g5 := g5.free; have a_g5 := fun o => (g5.alloc o).cell; have d_g5 := fun o o2 => ((g5.alloc o).alloc o2).cell; have e_g5 := fun o => (g5.alloc o).free; replace B := B.trans (b.mono B.size); clear b
  obtain ⟨⟨tA, tn, tc, rfl⟩, ⟨oA, on, oc, rfl⟩, ⟨sA, sn, sc, rfl⟩⟩ := om.forms
  clear om
  go_upto_region 2 with (fail)
  refine wp_gen (fun Wv => Bx Wv (wa2.heap.size) (26) (#[.slice tA tn tc, .slice oA on oc, .slice sA sn sc]) ∧ Below wa2.heap.size wa2 Wv) ⟨((Bx.at_ (by simp))), ((Below.refl _ wa2).alloc (by simp <;> omega) _)⟩ ?_
  rintro wa3 ⟨g4, b⟩
  try clear c_g1 f_g1 a_g1 d_g1 e_g1
  replace g1 := g1.below b; have c_g1 := g1.cell; have f_g1 := g1.free; have a_g1 := fun o => (g1.alloc o).cell; have d_g1 := fun o o2 => ((g1.alloc o).alloc o2).cell; have e_g1 := fun o => (g1.alloc o).free; try clear c_g3 f_g3 a_g3 d_g3 e_g3
  replace g3 := g3.below b; have c_g3 := g3.cell; have f_g3 := g3.free; have a_g3 := fun o => (g3.alloc o).cell; have d_g3 := fun o o2 => ((g3.alloc o).alloc o2).cell; have e_g3 := fun o => (g3.alloc o).free; try clear c_g5 f_g5 a_g5 d_g5 e_g5
  replace g5 := g5.below b; have c_g5 := g5.cell; have f_g5 := g5.free; have a_g5 := fun o => (g5.alloc o).cell; have d_g5 := fun o o2 => ((g5.alloc o).alloc o2).cell; have e_g5 := fun o => (g5.alloc o).free; replace B := B.trans (b.mono B.size); clear b
  have c_g4 := g4.cell; have f_g4 := g4.free; have a_g4 := fun o => (g4.alloc o).cell; have d_g4 := fun o o2 => ((g4.alloc o).alloc o2).cell; have e_g4 := fun o => (g4.alloc o).free
  go_wp2_with fail
  refine (NX.out _ (H.out.s.below B)).mono ?_
  rintro e w3 ⟨rfl, rfl⟩
  go_wp2
  refine bodyPost_ret (v := .tuple #[.agg #[.slice none 0 0, .slice none 0 0, .slice none 0 0], .agg #[.int .i64 0, .int .i64 0], .bool false]) (by simp [results, Try.results45, go_sem, c_g3, f_g3, c_g5, f_g5]) rfl ⟨rfl, ?_⟩
  (repeat (first | refine Below.setCell ?_ (by first | exact Nat.le_refl _ | (simp <;> omega)) _ | refine Below.alloc ?_ (by first | exact B.size | (have := B.size; simp <;> omega)) _)); exact B

set_option maxRecDepth 100000 in
set_option maxHeartbeats 8000000 in
theorem given_ok (tv ov sv : Value) (m : Mo) (n : Int) (kk : Nat) (s : Sl) (hc : chk m = 0) (hnx : next m.slots = some kk) (hs : m.slots[kk]? = some s) (w : World) (h : Mod w tv ov sv m) :
    Calls Try.prog 45 #[.agg #[tv, ov, sv], .int .i64 n] w fun e w' => ∃ t' o' s', e = .returned (.tuple #[.agg #[t', o', s'], .agg #[.int .i64 kk, .int .i64 (s.gen + 1)], .bool true]) ∧ OwnM w' w.heap.size 67 t' o' s' ⟨m.types, m.objs, m.slots.set kk ⟨s.gen + 1, true, n⟩⟩ ∧ Below w.heap.size w w' := by
  have B : Below w.heap.size w w := Below.refl _ _
  have H := Lib.hid h
  obtain ⟨_, _, h16, _, _, hsl⟩ := chk_ok hc
  have hgen : ∀ s ∈ m.slots, s.gen ≤ 2147483647 := fun s hs => (hsl s hs).1.2
  have hg1 := (hsl s (List.mem_of_getElem? hs)).1
  have TT := Lib.hid (fun w h => Twin_any tv ov sv m (small_chk hc) w h)
  have NX := Lib.hid (fun w h => NextR_any sv m.slots (kk : Int) (by rw [nextI, hnx]) w h hgen)
  have hkk : kk < 16 := by have := (List.getElem?_eq_some_iff.1 hs).1; omega
  obtain ⟨sb, sq, s2, ia, m0, k1, k2, hs2⟩ := h.s.at_ (P := Try.prog) Try.underlying24 size_slot (k := kk) (by omega)
  obtain rfl : s2 = s := by have := hs2.out; rw [hs] at this; injection this with e; exact e.symm
  have hwr : IntKind.i64.wrap (s2.gen + 1) = s2.gen + 1 := IntWalk.i64_in _ (by omega)
  have n0 : ¬ (kk : Int) < 0 := by omega
  have HS := Lib.hid hs; have H16 := Lib.hid h16
  clear h hc hnx h16 hsl hgen hs2 k1 k2 hs
  go_enter Try.func45, Try.ntmps45
  go_upto_region 1 with (fail)
  refine wp_gen (fun Wv => Bx Wv (w.heap.size) (26) (#[tv, ov, sv]) ∧ Bx Wv (w.heap.size + 1) (26) (#[.slice none 0 0, .slice none 0 0, .slice none 0 0]) ∧ Bx Wv (w.heap.size + 1 + 1) (28) (#[.int .i64 0, .int .i64 0]) ∧ Below w.heap.size w Wv) ⟨((((Bx.at_ (by simp)).alloc _).alloc _)), (((Bx.at_ (by simp)).alloc _)), ((Bx.at_ (by simp))), ((((Below.refl _ w).alloc (by simp <;> omega) _).alloc (by simp <;> omega) _).alloc (by simp <;> omega) _)⟩ ?_
  rintro wa1 ⟨g1, g3, g5, b⟩
  replace m0 := cell_later b m0; replace B := B.trans (b.mono B.size); clear b
  have c_g1 := g1.cell; have f_g1 := g1.free; have a_g1 := fun o => (g1.alloc o).cell; have d_g1 := fun o o2 => ((g1.alloc o).alloc o2).cell; have e_g1 := fun o => (g1.alloc o).free
  have c_g3 := g3.cell; have f_g3 := g3.free; have a_g3 := fun o => (g3.alloc o).cell; have d_g3 := fun o o2 => ((g3.alloc o).alloc o2).cell; have e_g3 := fun o => (g3.alloc o).free
  have c_g5 := g5.cell; have f_g5 := g5.free; have a_g5 := fun o => (g5.alloc o).cell; have d_g5 := fun o o2 => ((g5.alloc o).alloc o2).cell; have e_g5 := fun o => (g5.alloc o).free
  have hz1 := B.size; have hp1 := g5.lt
  go_wp2_with fail
  refine (TT.out _ (H.out.below B)).mono ?_
  rintro e wa2 ⟨t', o', s', rfl, om, b⟩
  replace m0 := cell_later b m0; try clear c_g1 f_g1 a_g1 d_g1 e_g1
  replace g1 := g1.below b; have c_g1 := g1.cell; have f_g1 := g1.free; have a_g1 := fun o => (g1.alloc o).cell; have d_g1 := fun o o2 => ((g1.alloc o).alloc o2).cell; have e_g1 := fun o => (g1.alloc o).free; try clear c_g3 f_g3 a_g3 d_g3 e_g3
  replace g3 := g3.below b; have c_g3 := g3.cell; have f_g3 := g3.free; have a_g3 := fun o => (g3.alloc o).cell; have d_g3 := fun o o2 => ((g3.alloc o).alloc o2).cell; have e_g3 := fun o => (g3.alloc o).free; try clear c_g5 f_g5 a_g5 d_g5 e_g5
  replace g5 := g5.below b; have c_g5 := g5.cell; have f_g5 := g5.free; have a_g5 := fun o => (g5.alloc o).cell; have d_g5 := fun o o2 => ((g5.alloc o).alloc o2).cell; have e_g5 := fun o => (g5.alloc o).free; replace B := B.trans (b.mono B.size); clear b
  obtain ⟨⟨tA, tn, tc, rfl⟩, ⟨oA, on, oc, rfl⟩, _⟩ := om.forms
  obtain ⟨gS, sc, rfl⟩ : ∃ g c, s' = .slice (some ⟨g, 0, none⟩) 16 c := by obtain ⟨g, n, c, e, e2⟩ := om.s.form (by have := H16.out; omega); rw [e2, H16.out] at e; exact ⟨g, c, e⟩
  have hgS := om.s.lt gS rfl
  go_upto_region 2 with (fail)
  refine wp_gen (fun Wv => Bx Wv (wa2.heap.size) (26) (#[.slice tA tn tc, .slice oA on oc, .slice (some ⟨gS, 0, none⟩) 16 sc]) ∧ Below wa2.heap.size wa2 Wv) ⟨((Bx.at_ (by simp))), ((Below.refl _ wa2).alloc (by simp <;> omega) _)⟩ ?_
  rintro wa3 ⟨g4, b⟩
  replace m0 := cell_later b m0; try clear c_g1 f_g1 a_g1 d_g1 e_g1
  replace g1 := g1.below b; have c_g1 := g1.cell; have f_g1 := g1.free; have a_g1 := fun o => (g1.alloc o).cell; have d_g1 := fun o o2 => ((g1.alloc o).alloc o2).cell; have e_g1 := fun o => (g1.alloc o).free; try clear c_g3 f_g3 a_g3 d_g3 e_g3
  replace g3 := g3.below b; have c_g3 := g3.cell; have f_g3 := g3.free; have a_g3 := fun o => (g3.alloc o).cell; have d_g3 := fun o o2 => ((g3.alloc o).alloc o2).cell; have e_g3 := fun o => (g3.alloc o).free; try clear c_g5 f_g5 a_g5 d_g5 e_g5
  replace g5 := g5.below b; have c_g5 := g5.cell; have f_g5 := g5.free; have a_g5 := fun o => (g5.alloc o).cell; have d_g5 := fun o o2 => ((g5.alloc o).alloc o2).cell; have e_g5 := fun o => (g5.alloc o).free; replace om := om.below b; replace B := B.trans (b.mono B.size); clear b
  have c_g4 := g4.cell; have f_g4 := g4.free; have a_g4 := fun o => (g4.alloc o).cell; have d_g4 := fun o o2 => ((g4.alloc o).alloc o2).cell; have e_g4 := fun o => (g4.alloc o).free
  go_wp2_with fail
  refine (NX.out _ (H.out.s.below B)).mono ?_
  rintro e w3 ⟨rfl, rfl⟩
  have HP := Lib.hid (OwnS.put3 (k := kk) om.s (by have := H16.out; omega) ⟨s2.gen + 1, true, n⟩)
  obtain ⟨ix, p0, p1, p2⟩ := OwnS.cells om.s HS.out
  have fz := HP.out.2.2.2.2
  have hM3 := OwnM.slots om HP.out.2.1 HP.out.1
  have nx := fun {q : Nat} {tq : TypeId} {cs : Array Value} (hb : Bx wa3 q tq cs) (hne : gS ≠ q) => hb.grown HP.out.2.1 (.inr (fun e => hne (by injection e)))
  have r3 := nx g3 (by omega); have r5 := nx g5 (by omega); have r4 := nx g4 (by omega)
  have hb3 := B.grown HP.out.2.1 B.size (fun k hk => by injection hk with hk; rw [← hk]; have := HP.out.2.2.1; omega)
  have HH := Lib.hid (And.intro hM3 (And.intro r3 (And.intro r5 (And.intro r4 hb3))))
  clear nx r3 r5 r4 hb3 hM3
  go_upto_region 7 with (fail)
  refine wp_gen (fun Wv => OwnM Wv wa1.heap.size 67 (.slice tA tn tc) (.slice oA on oc) (.slice (some ⟨gS, 0, none⟩) 16 sc) ⟨m.types, m.objs, m.slots.set kk ⟨s2.gen + 1, true, n⟩⟩ ∧ Bx Wv (w.heap.size + 1) 26 #[.slice none 0 0, .slice none 0 0, .slice none 0 0] ∧ Bx Wv (w.heap.size + 1 + 1) 28 #[.int .i64 0, .int .i64 0] ∧ Bx Wv wa2.heap.size 26 #[.slice tA tn tc, .slice oA on oc, .slice (some ⟨gS, 0, none⟩) 16 sc] ∧ Below w.heap.size w Wv) HH.out ?_
  rintro wz ⟨om2, r3, r5, r4, B2⟩
  clear HH om g1 g3 g5 g4 B m0 p0 p1 p2 fz ix HP c_g1 f_g1 a_g1 d_g1 e_g1 c_g3 f_g3 a_g3 d_g3 e_g3 c_g4 f_g4 a_g4 d_g4 e_g4 c_g5 f_g5 a_g5 d_g5 e_g5
  have c3 := r3.cell; have f3 := r3.free; have c5 := r5.cell; have f5 := r5.free; have c4 := r4.cell
  go_wp2
  refine bodyPost_ret (v := .tuple #[.agg #[.slice tA tn tc, .slice oA on oc, .slice (some ⟨gS, 0, none⟩) 16 sc], .agg #[.int .i64 kk, .int .i64 (s2.gen + 1)], .bool true]) (by simp [results, Try.results45, go_sem, c3, f3, c5, f5]) rfl ?_
  have om3 := OwnM.set3 (a := .slice tA tn tc) (b := .slice oA on oc) (c := .slice (some ⟨gS, 0, none⟩) 16 sc) (OwnM.mono om2 hz1) r3
  have nn5 : w.heap.size + 1 + 1 ≠ w.heap.size + 1 := by omega
  have q5 := ((r5.far (p := ⟨w.heap.size + 1, 0, none⟩) nn5 (.slice tA tn tc)).far (p := ⟨w.heap.size + 1, 1, none⟩) nn5 (.slice oA on oc)).far (p := ⟨w.heap.size + 1, 2, none⟩) nn5 (.slice (some ⟨gS, 0, none⟩) 16 sc)
  refine ⟨_, _, _, rfl, OwnM.setH (OwnM.setH om3 q5) (q5.set _), ?_⟩
  have b1 := ((B2.setCell (p := ⟨w.heap.size + 1, 0, none⟩) (by simp) (.slice tA tn tc)).setCell (p := ⟨w.heap.size + 1, 1, none⟩) (by simp) (.slice oA on oc)).setCell (p := ⟨w.heap.size + 1, 2, none⟩) (by simp) (.slice (some ⟨gS, 0, none⟩) 16 sc)
  exact (b1.setCell (p := ⟨w.heap.size + 1 + 1, 0, none⟩) (by simp; omega) _).setCell (p := ⟨w.heap.size + 1 + 1, 1, none⟩) (by simp; omega) _
end Go.Proofs.Ytgjpohhafmkhcaa
