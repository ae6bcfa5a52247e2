/- Contracts of the functions that the law 'ModelFrees' reaches, part 4. No condition. -/
import Derived.Test.YtgjpohhafmkhcaaMMFsc
set_option linter.unusedVariables false
set_option linter.unusedSimpArgs false
namespace Go.Proofs.Ytgjpohhafmkhcaa
open Go.RowKit L02 L13 L18 L20
set_option maxRecDepth 100000 in
set_option maxHeartbeats 8000000 in
theorem Drop20_any (tv ov sv : Value) (m : Mo) (sl g : Int) (M : Mo) (r : Int) (hM : M = dropM m sl g) (hr : r = asked m sl g) (w : World) (h : Mod w tv ov sv m) :
    Calls Try.prog 28 #[.agg #[tv, ov, sv], .agg #[.int .i64 sl, .int .i64 g]] w fun e w' => ∃ t' o' s', e = .returned (.tuple #[.agg #[t', o', s'], .int .i64 r]) ∧ Mod w' t' o' s' M ∧ Below w.heap.size w w' := by
  have B : Below w.heap.size w w := Below.refl _ _
  have H := Lib.hid h
  by_cases ha : asked m sl g = 0
  · obtain ⟨c0, hr0, k, s, n', o, t, hk, hk16, hs, hu, hg, hso, hat, hown, _⟩ := asked_ok ha
    have OT := Lib.hid (fun w h => open20_ok tv ov sv m sl g n' ha hown w h)
    obtain ⟨_, _, h16, _⟩ := chk_ok c0
    have hr1 : r = 0 := by rw [hr, ha]
    have hM1 : M = ⟨m.types, m.objs, m.slots.set k ⟨g, false, 0⟩⟩ := by rw [hM, dropM, if_pos ha, hk, Int.toNat_natCast]
    subst hk
    subst hr1; subst hM1
    have HS := Lib.hid hs; have H16 := Lib.hid h16
    clear hr hM ha c0 hr0 hu hso hat hown h hs h16
    go_enter Try.func28, Try.ntmps28
    go_upto_region 1 with (fail)
    refine wp_gen (fun Wv => Bx Wv (w.heap.size) (26) (#[tv, ov, sv]) ∧ Bx Wv (w.heap.size + 1) (28) (#[.int .i64 k, .int .i64 g]) ∧ Bx Wv (w.heap.size + 1 + 1) (26) (#[.slice none 0 0, .slice none 0 0, .slice none 0 0]) ∧ Below w.heap.size w Wv) ⟨((((Bx.at_ (by simp)).alloc _).alloc _)), (((Bx.at_ (by simp)).alloc _)), ((Bx.at_ (by simp))), ((((Below.refl _ w).alloc (by simp <;> omega) _).alloc (by simp <;> omega) _).alloc (by simp <;> omega) _)⟩ ?_
    rintro wa1 ⟨g1, g2, g3, b⟩
    replace B := B.trans (b.mono B.size); clear b
    have c_g1 := g1.cell; have f_g1 := g1.free; have a_g1 := fun o => (g1.alloc o).cell; have d_g1 := fun o o2 => ((g1.alloc o).alloc o2).cell; have e_g1 := fun o => (g1.alloc o).free
    have c_g2 := g2.cell; have f_g2 := g2.free; have a_g2 := fun o => (g2.alloc o).cell; have d_g2 := fun o o2 => ((g2.alloc o).alloc o2).cell; have e_g2 := fun o => (g2.alloc o).free
    have c_g3 := g3.cell; have f_g3 := g3.free; have a_g3 := fun o => (g3.alloc o).cell; have d_g3 := fun o o2 => ((g3.alloc o).alloc o2).cell; have e_g3 := fun o => (g3.alloc o).free
    have hz1 := B.size; have hp1 := g3.lt
    go_wp2_with fail
    refine (OT.out _ (H.out.below B)).mono ?_
    rintro e wa2 ⟨t', o', s', rfl, om, b⟩
    try clear c_g1 f_g1 a_g1 d_g1 e_g1
    replace g1 := g1.below b; have c_g1 := g1.cell; have f_g1 := g1.free; have a_g1 := fun o => (g1.alloc o).cell; have d_g1 := fun o o2 => ((g1.alloc o).alloc o2).cell; have e_g1 := fun o => (g1.alloc o).free; try clear c_g2 f_g2 a_g2 d_g2 e_g2
    replace g2 := g2.below b; have c_g2 := g2.cell; have f_g2 := g2.free; have a_g2 := fun o => (g2.alloc o).cell; have d_g2 := fun o o2 => ((g2.alloc o).alloc o2).cell; have e_g2 := fun o => (g2.alloc o).free; try clear c_g3 f_g3 a_g3 d_g3 e_g3
    replace g3 := g3.below b; have c_g3 := g3.cell; have f_g3 := g3.free; have a_g3 := fun o => (g3.alloc o).cell; have d_g3 := fun o o2 => ((g3.alloc o).alloc o2).cell; have e_g3 := fun o => (g3.alloc o).free; replace B := B.trans (b.mono B.size); clear b
    obtain ⟨⟨tA, tn, tc, rfl⟩, ⟨oA, on, oc, rfl⟩, _⟩ := om.forms
    obtain ⟨gS, sc, rfl⟩ : ∃ g c, s' = .slice (some ⟨g, 0, none⟩) 16 c := by obtain ⟨g, n, c, e, e2⟩ := om.s.form (by have := H16.out; omega); rw [e2, H16.out] at e; exact ⟨g, c, e⟩
    have hgS := om.s.lt gS rfl
    go_upto_region 2 with (fail)
    refine wp_gen (fun Wv => Bx Wv (wa2.heap.size) (26) (#[.slice tA tn tc, .slice oA on oc, .slice (some ⟨gS, 0, none⟩) 16 sc]) ∧ Below wa2.heap.size wa2 Wv) ⟨((Bx.at_ (by simp))), ((Below.refl _ wa2).alloc (by simp <;> omega) _)⟩ ?_
    rintro wa3 ⟨g4, b⟩
    try clear c_g1 f_g1 a_g1 d_g1 e_g1
    replace g1 := g1.below b; have c_g1 := g1.cell; have f_g1 := g1.free; have a_g1 := fun o => (g1.alloc o).cell; have d_g1 := fun o o2 => ((g1.alloc o).alloc o2).cell; have e_g1 := fun o => (g1.alloc o).free; try clear c_g2 f_g2 a_g2 d_g2 e_g2
    replace g2 := g2.below b; have c_g2 := g2.cell; have f_g2 := g2.free; have a_g2 := fun o => (g2.alloc o).cell; have d_g2 := fun o o2 => ((g2.alloc o).alloc o2).cell; have e_g2 := fun o => (g2.alloc o).free; try clear c_g3 f_g3 a_g3 d_g3 e_g3
    replace g3 := g3.below b; have c_g3 := g3.cell; have f_g3 := g3.free; have a_g3 := fun o => (g3.alloc o).cell; have d_g3 := fun o o2 => ((g3.alloc o).alloc o2).cell; have e_g3 := fun o => (g3.alloc o).free; replace om := om.below b; replace B := B.trans (b.mono B.size); clear b
    have c_g4 := g4.cell; have f_g4 := g4.free; have a_g4 := fun o => (g4.alloc o).cell; have d_g4 := fun o o2 => ((g4.alloc o).alloc o2).cell; have e_g4 := fun o => (g4.alloc o).free
    have HP := Lib.hid (OwnS.put3 (k := k) om.s (by have := H16.out; omega) ⟨g, false, 0⟩)
    obtain ⟨ix, p0, p1, p2⟩ := OwnS.cells om.s HS.out
    have fz := HP.out.2.2.2.2
    have hM3 := OwnM.slots om HP.out.2.1 HP.out.1
    have nx := fun {q : Nat} {tq : TypeId} {cs : Array Value} (hb : Bx wa3 q tq cs) (hne : gS ≠ q) => hb.grown HP.out.2.1 (.inr (fun e => hne (by injection e)))
    have r3 := nx g3 (by omega); have r4 := nx g4 (by omega)
    have hb3 := B.grown HP.out.2.1 B.size (fun k hk => by injection hk with hk; rw [← hk]; have := HP.out.2.2.1; omega)
    have HH := Lib.hid (And.intro hM3 (And.intro r3 (And.intro r4 hb3)))
    clear nx r3 r4 hb3 hM3
    go_upto_region 5 with (fail)
    refine wp_gen (fun Wv => OwnM Wv wa1.heap.size 67 (.slice tA tn tc) (.slice oA on oc) (.slice (some ⟨gS, 0, none⟩) 16 sc) ⟨m.types, m.objs, m.slots.set k ⟨g, false, 0⟩⟩ ∧ Bx Wv (w.heap.size + 1 + 1) 26 #[.slice none 0 0, .slice none 0 0, .slice none 0 0] ∧ Bx Wv wa2.heap.size 26 #[.slice tA tn tc, .slice oA on oc, .slice (some ⟨gS, 0, none⟩) 16 sc] ∧ Below w.heap.size w Wv) HH.out ?_
    rintro wz ⟨om2, r3, r4, B2⟩
    clear HH om g1 g2 g3 g4 B p0 p1 p2 fz ix HP c_g1 f_g1 a_g1 d_g1 e_g1 c_g2 f_g2 a_g2 d_g2 e_g2 c_g3 f_g3 a_g3 d_g3 e_g3 c_g4 f_g4 a_g4 d_g4 e_g4
    have c3 := r3.cell; have f3 := r3.free; have c4 := r4.cell
    go_wp2
    refine bodyPost_ret (v := .tuple #[.agg #[.slice tA tn tc, .slice oA on oc, .slice (some ⟨gS, 0, none⟩) 16 sc], .int .i64 0]) (by simp [results, Try.results28, go_sem, c3, f3]) rfl ?_
    refine ⟨_, _, _, rfl, (OwnM.set3 om2 r3).rd, ?_⟩
    exact ((B2.setCell (p := ⟨w.heap.size + 1 + 1, 0, none⟩) (by simp; omega) _).setCell (p := ⟨w.heap.size + 1 + 1, 1, none⟩) (by simp; omega) _).setCell (p := ⟨w.heap.size + 1 + 1, 2, none⟩) (by simp; omega) _
  · have OT := Lib.hid (fun w h => open20_no tv ov sv m sl g r hr (by rw [hr]; exact ha) w h)
    have hM1 : M = .nil := by rw [hM, dropM, if_neg ha]
    have hne : (r != 0) = true := by rw [bne_iff_ne, hr]; exact ha
    subst hM1
    clear hr hM ha h
    go_enter Try.func28, Try.ntmps28
    go_upto_region 1 with (fail)
    refine wp_gen (fun Wv => Bx Wv (w.heap.size) (26) (#[tv, ov, sv]) ∧ Bx Wv (w.heap.size + 1) (28) (#[.int .i64 sl, .int .i64 g]) ∧ Bx Wv (w.heap.size + 1 + 1) (26) (#[.slice none 0 0, .slice none 0 0, .slice none 0 0]) ∧ Below w.heap.size w Wv) ⟨((((Bx.at_ (by simp)).alloc _).alloc _)), (((Bx.at_ (by simp)).alloc _)), ((Bx.at_ (by simp))), ((((Below.refl _ w).alloc (by simp <;> omega) _).alloc (by simp <;> omega) _).alloc (by simp <;> omega) _)⟩ ?_
    rintro wa1 ⟨g1, g2, g3, b⟩
    replace B := B.trans (b.mono B.size); clear b
    have c_g1 := g1.cell; have f_g1 := g1.free; have a_g1 := fun o => (g1.alloc o).cell; have d_g1 := fun o o2 => ((g1.alloc o).alloc o2).cell; have e_g1 := fun o => (g1.alloc o).free
    have c_g2 := g2.cell; have f_g2 := g2.free; have a_g2 := fun o => (g2.alloc o).cell; have d_g2 := fun o o2 => ((g2.alloc o).alloc o2).cell; have e_g2 := fun o => (g2.alloc o).free
    have c_g3 := g3.cell; have f_g3 := g3.free; have a_g3 := fun o => (g3.alloc o).cell; have d_g3 := fun o o2 => ((g3.alloc o).alloc o2).cell; have e_g3 := fun o => (g3.alloc o).free
    go_wp2_with fail
    refine (OT.out _ (H.out.below B)).mono ?_
    rintro e wa2 ⟨rfl, b⟩
    try clear c_g1 f_g1 a_g1 d_g1 e_g1
    replace g1 := g1.below b; have c_g1 := g1.cell; have f_g1 := g1.free; have a_g1 := fun o => (g1.alloc o).cell; have d_g1 := fun o o2 => ((g1.alloc o).alloc o2).cell; have e_g1 := fun o => (g1.alloc o).free; try clear c_g2 f_g2 a_g2 d_g2 e_g2
    replace g2 := g2.below b; have c_g2 := g2.cell; have f_g2 := g2.free; have a_g2 := fun o => (g2.alloc o).cell; have d_g2 := fun o o2 => ((g2.alloc o).alloc o2).cell; have e_g2 := fun o => (g2.alloc o).free; try clear c_g3 f_g3 a_g3 d_g3 e_g3
    replace g3 := g3.below b; have c_g3 := g3.cell; have f_g3 := g3.free; have a_g3 := fun o => (g3.alloc o).cell; have d_g3 := fun o o2 => ((g3.alloc o).alloc o2).cell; have e_g3 := fun o => (g3.alloc o).free; replace B := B.trans (b.mono B.size); clear b
    go_upto_region 2 with (fail)
    refine wp_gen (fun Wv => Bx Wv (wa2.heap.size) (26) (#[.slice none 0 0, .slice none 0 0, .slice none 0 0]) ∧ Below wa2.heap.size wa2 Wv) ⟨((Bx.at_ (by simp))), ((Below.refl _ wa2).alloc (by simp <;> omega) _)⟩ ?_
    rintro wa3 ⟨g4, b⟩
    try clear c_g1 f_g1 a_g1 d_g1 e_g1
    replace g1 := g1.below b; have c_g1 := g1.cell; have f_g1 := g1.free; have a_g1 := fun o => (g1.alloc o).cell; have d_g1 := fun o o2 => ((g1.alloc o).alloc o2).cell; have e_g1 := fun o => (g1.alloc o).free; try clear c_g2 f_g2 a_g2 d_g2 e_g2
    replace g2 := g2.below b; have c_g2 := g2.cell; have f_g2 := g2.free; have a_g2 := fun o => (g2.alloc o).cell; have d_g2 := fun o o2 => ((g2.alloc o).alloc o2).cell; have e_g2 := fun o => (g2.alloc o).free; try clear c_g3 f_g3 a_g3 d_g3 e_g3
    replace g3 := g3.below b; have c_g3 := g3.cell; have f_g3 := g3.free; have a_g3 := fun o => (g3.alloc o).cell; have d_g3 := fun o o2 => ((g3.alloc o).alloc o2).cell; have e_g3 := fun o => (g3.alloc o).free; replace B := B.trans (b.mono B.size); clear b
    have c_g4 := g4.cell; have f_g4 := g4.free; have a_g4 := fun o => (g4.alloc o).cell; have d_g4 := fun o o2 => ((g4.alloc o).alloc o2).cell; have e_g4 := fun o => (g4.alloc o).free
    go_wp2
    refine bodyPost_ret (v := .tuple #[.agg #[.slice none 0 0, .slice none 0 0, .slice none 0 0], .int .i64 r]) (by simp [results, Try.results28, go_sem, c_g3, f_g3]) rfl ?_
    refine ⟨_, _, _, rfl, Mod.nil _, ?_⟩
    (repeat (first | refine Below.setCell ?_ (by first | exact Nat.le_refl _ | (simp <;> omega)) _ | refine Below.alloc ?_ (by first | exact B.size | (have := B.size; simp <;> omega)) _)); exact B
end Go.Proofs.Ytgjpohhafmkhcaa
namespace Go.Proofs.Ytgjpohhafmkhcaa
open Go.RowKit L02 L13 L18 L20
/-- a row of an own table -/
theorem OwnT.at1 {w : World} {base : Nat} {v : Value} {L : List (List UInt8)} (h : OwnT w base v L) {k : Nat} {l : List UInt8} (hl : L[k]? = some l) :
    ∃ ad y, (∀ W, (Instr.indexAt 22 v (.int .i64 (k : Int))).run Try.prog W = .ok (.pointer (some ad)) W) ∧ w.cell? ad = some y ∧ (∀ ty W, (Builtin.len_ #[74] ty #[y]).run Try.prog W = .ok (.int .i64 (l.length : Int)) W) ∧ v.ownBlock = some ad.block := by
  obtain ⟨vs, h1, h2, h4⟩ := h
  have hk : k < L.length := (List.getElem?_eq_some_iff.1 hl).1
  have hv : vs[k]? = some vs[k] := List.getElem?_eq_getElem (by omega)
  have hr := h4 k _ _ hv hl
  obtain ⟨g, c, cur, e, hg, _⟩ := own_form h2 (by omega)
  refine ⟨cellAt v (k * 1), vs[k], fun W => Rd.ixN (Rd.of_own h2) Try.underlying22 one_bytes hk W, by rw [Nat.mul_one]; exact Rd.cell (Rd.of_own h2) hv, Rd.len (OwnB.rd hr) Try.underlying74, ?_⟩
  rw [e]; rfl
/-- make([]uint64, n) -/
theorem run_make_words {w : World} (n : Nat) (hn : n ≤ 1000) : ∃ w', (Instr.makeSlice 70 (.int .i64 (n : Int)) (.int .i64 (n : Int))).run Try.prog w = .ok (.slice (some ⟨w.heap.size, 0, none⟩) n n) w' ∧ OwnW w' w.heap.size 29 (.slice (some ⟨w.heap.size, 0, none⟩) n n) (List.replicate n 0) ∧ Below w.heap.size w w' := by
  obtain ⟨i, hi1, hi2, hi3, hi4⟩ := info3 info_u64
  obtain ⟨w', hrun, g1, g2⟩ := run_make_full (P := Try.prog) w w.heap.size 70 _ i _ 1 Try.underlying70 hi1 hi2 hi3 .i64 .i64 n (by rw [hi4]; omega) (by unfold maxLen; omega) (Nat.le_refl _)
  refine ⟨w', hrun, OwnW.of g1 ?_, (Below.refl _ w).grown g2 (Nat.le_refl _) (fun _ hk => by cases hk)⟩
  rw [Nat.mul_one, show (Value.int IntKind.u64 0).cells = #[Value.int IntKind.u64 0] from rfl, toList_madeCells_one]
  simp [u64]
set_option maxRecDepth 100000 in
set_option maxHeartbeats 8000000 in
theorem Alloc20_any (tv ov sv : Value) (m : Mo) (t : Int) (M : Mo) (r hs hg : Int) (hM : M = allM m t) (hr : r = allE m t) (hhs : hs = allS m t) (hhg : hg = allG m t) (w : World) (h : Mod w tv ov sv m) :
    Calls Try.prog 26 #[.agg #[tv, ov, sv], .int .i64 t] w fun e w' => ∃ t' o' s', e = .returned (.tuple #[.agg #[t', o', s'], .agg #[.int .i64 hs, .int .i64 hg], .int .i64 r]) ∧ Mod w' t' o' s' M ∧ Below w.heap.size w w' := by
  have B : Below w.heap.size w w := Below.refl _ _
  have H := Lib.hid h
  have hno : r ≠ 0 → M = .nil ∧ hs = 0 ∧ hg = 0 := fun h => ⟨by rw [hM, allM, ← hr, if_neg h], by rw [hhs, allS, ← hr, if_neg h], by rw [hhg, allG, ← hr, if_neg h]⟩
  obtain ⟨c, hc⟩ : ∃ c, c = chk m := ⟨_, rfl⟩
  have CT := Lib.hid (fun w h => Check20_any tv ov sv m c hc w h)
  have lt := h.t.len
  obtain ⟨NT, hNT⟩ : ∃ N, N = m.types.length := ⟨_, rfl⟩
  rw [← hNT] at lt
  by_cases h0 : chk m = 0
  · have hc0 : c = 0 := by rw [hc, h0]
    subst hc0
    by_cases ht : 0 ≤ t ∧ t < NT
    · obtain ⟨q, rfl⟩ := Int.eq_ofNat_of_zero_le ht.1
      have n1 : ¬ (q : Int) < 0 := by omega
      have n2 : ¬ (NT : Int) ≤ (q : Int) := by omega
      have n3 : ¬ NT ≤ q := by omega
      have hq : q < m.types.length := by omega
      obtain ⟨l, hl⟩ : ∃ l, m.types[q]? = some l := ⟨_, List.getElem?_eq_getElem hq⟩
      obtain ⟨k1, k2, k3⟩ := chk_ok h0
      have hl8 : l.length ≤ 8 := (kErr_ok (k3.2.1 l (List.mem_of_getElem? hl))).1
      have CP := Lib.hid (fun w h => copied_any tv ov sv m (small_chk h0) w h)
      obtain ⟨NO, hNO⟩ : ∃ N, N = m.objs.length := ⟨_, rfl⟩
      obtain ⟨a, b, ok, m2, hHC, hway⟩ := handle_way (m := m) (n := (NO : Int)) h0 (by omega)
      have HC := Lib.hid hHC; have HW := Lib.hid hway
      have hr1 : next m.slots = none → r = 23 := fun hn => by rw [hr, allE, if_pos h0, if_pos (by omega), if_pos hn]
      have hr2 : ∀ k, next m.slots = some k → NO = 960 → r = 4 := fun k hn h9 => by rw [hr, allE, if_pos h0, if_pos (by omega), if_neg (by rw [hn]; exact fun e => by cases e), if_pos (by omega)]
      have hr3 : ∀ k, next m.slots = some k → ¬ NO = 960 → r = 0 := fun k hn h9 => by rw [hr, allE, if_pos h0, if_pos (by omega), if_neg (by rw [hn]; exact fun e => by cases e), if_neg (by omega)]
      have hyes : r = 0 → M = ⟨m.types, m.objs ++ [⟨(q : Int), List.replicate l.length 0⟩], givS m m.objs.length ((next m.slots).getD 0)⟩ ∧ hs = ((next m.slots).getD 0 : Nat) ∧ hg = (m.slots.getD ((next m.slots).getD 0) .none).gen + 1 := fun h => ⟨by rw [hM, allM, ← hr, if_pos h, newO]; simp [List.getD_eq_getElem?_getD, hl], by rw [hhs, allS, ← hr, if_pos h], by rw [hhg, allG, ← hr, if_pos h]⟩
      have HR1 := Lib.hid hr1; have HR2 := Lib.hid hr2; have HR3 := Lib.hid hr3; have HNO := Lib.hid hno; have HYES := Lib.hid hyes
      have HLL := Lib.hid hl; have HNN := Lib.hid hNO
      have HX960 := Lib.hid k2
      clear hr hM hhs hhg hno h0 h hHC hway hr1 hr2 hr3 hyes hc ht hq k1 k2 k3 hl hNO hNT
      go_enter Try.func26, Try.ntmps26
      go_upto_region 1 with (fail)
      refine wp_gen (fun Wv => Bx Wv (w.heap.size) (26) (#[tv, ov, sv]) ∧ Bx Wv (w.heap.size + 1) (26) (#[.slice none 0 0, .slice none 0 0, .slice none 0 0]) ∧ Bx Wv (w.heap.size + 1 + 1) (28) (#[.int .i64 0, .int .i64 0]) ∧ Below w.heap.size w Wv) ⟨((((Bx.at_ (by simp)).alloc _).alloc _)), (((Bx.at_ (by simp)).alloc _)), ((Bx.at_ (by simp))), ((((Below.refl _ w).alloc (by simp <;> omega) _).alloc (by simp <;> omega) _).alloc (by simp <;> omega) _)⟩ ?_
      rintro wa1 ⟨g1, g3, g7, b⟩
      replace B := B.trans (b.mono B.size); clear b
      have c_g1 := g1.cell; have f_g1 := g1.free; have a_g1 := fun o => (g1.alloc o).cell; have d_g1 := fun o o2 => ((g1.alloc o).alloc o2).cell; have e_g1 := fun o => (g1.alloc o).free
      have c_g3 := g3.cell; have f_g3 := g3.free; have a_g3 := fun o => (g3.alloc o).cell; have d_g3 := fun o o2 => ((g3.alloc o).alloc o2).cell; have e_g3 := fun o => (g3.alloc o).free
      have c_g7 := g7.cell; have f_g7 := g7.free; have a_g7 := fun o => (g7.alloc o).cell; have d_g7 := fun o o2 => ((g7.alloc o).alloc o2).cell; have e_g7 := fun o => (g7.alloc o).free
      go_wp2_with fail
      refine (CT.out _ (H.out.below B)).mono ?_
      rintro e wa2 ⟨rfl, b⟩
      try clear c_g1 f_g1 a_g1 d_g1 e_g1
      replace g1 := g1.below b; have c_g1 := g1.cell; have f_g1 := g1.free; have a_g1 := fun o => (g1.alloc o).cell; have d_g1 := fun o o2 => ((g1.alloc o).alloc o2).cell; have e_g1 := fun o => (g1.alloc o).free; try clear c_g3 f_g3 a_g3 d_g3 e_g3
      replace g3 := g3.below b; have c_g3 := g3.cell; have f_g3 := g3.free; have a_g3 := fun o => (g3.alloc o).cell; have d_g3 := fun o o2 => ((g3.alloc o).alloc o2).cell; have e_g3 := fun o => (g3.alloc o).free; try clear c_g7 f_g7 a_g7 d_g7 e_g7
      replace g7 := g7.below b; have c_g7 := g7.cell; have f_g7 := g7.free; have a_g7 := fun o => (g7.alloc o).cell; have d_g7 := fun o o2 => ((g7.alloc o).alloc o2).cell; have e_g7 := fun o => (g7.alloc o).free; replace B := B.trans (b.mono B.size); clear b
      have hz1 := B.size; have hp7 := g7.lt
      go_wp2_with fail
      refine (CP.out _ (H.out.below B)).mono ?_
      rintro e wa3 ⟨t', o', s', rfl, om, b⟩
      try clear c_g1 f_g1 a_g1 d_g1 e_g1
      replace g1 := g1.below b; have c_g1 := g1.cell; have f_g1 := g1.free; have a_g1 := fun o => (g1.alloc o).cell; have d_g1 := fun o o2 => ((g1.alloc o).alloc o2).cell; have e_g1 := fun o => (g1.alloc o).free; try clear c_g3 f_g3 a_g3 d_g3 e_g3
      replace g3 := g3.below b; have c_g3 := g3.cell; have f_g3 := g3.free; have a_g3 := fun o => (g3.alloc o).cell; have d_g3 := fun o o2 => ((g3.alloc o).alloc o2).cell; have e_g3 := fun o => (g3.alloc o).free; try clear c_g7 f_g7 a_g7 d_g7 e_g7
      replace g7 := g7.below b; have c_g7 := g7.cell; have f_g7 := g7.free; have a_g7 := fun o => (g7.alloc o).cell; have d_g7 := fun o o2 => ((g7.alloc o).alloc o2).cell; have e_g7 := fun o => (g7.alloc o).free; replace B := B.trans (b.mono B.size); clear b
      replace om : OwnM _ w.heap.size 67 t' o' s' m := OwnM.mono om hz1
      obtain ⟨⟨tA, tn, tc, rfl⟩, ⟨oA, on, oc, rfl⟩, ⟨sA, sn, sc, rfl⟩⟩ := om.forms
      have lo := om.rd.o.len
      rw [← HNN.out] at lo
      have hpc := g7.lt
      go_upto_region 7 with (fail)
      refine wp_gen (fun Wv => Bx Wv (wa3.heap.size) (26) (#[.slice tA tn tc, .slice oA on oc, .slice sA sn sc]) ∧ Below wa3.heap.size wa3 Wv) ⟨((Bx.at_ (by simp))), ((Below.refl _ wa3).alloc (by simp <;> omega) _)⟩ ?_
      rintro wa4 ⟨g4, b⟩
      try clear c_g1 f_g1 a_g1 d_g1 e_g1
      replace g1 := g1.below b; have c_g1 := g1.cell; have f_g1 := g1.free; have a_g1 := fun o => (g1.alloc o).cell; have d_g1 := fun o o2 => ((g1.alloc o).alloc o2).cell; have e_g1 := fun o => (g1.alloc o).free; try clear c_g3 f_g3 a_g3 d_g3 e_g3
      replace g3 := g3.below b; have c_g3 := g3.cell; have f_g3 := g3.free; have a_g3 := fun o => (g3.alloc o).cell; have d_g3 := fun o o2 => ((g3.alloc o).alloc o2).cell; have e_g3 := fun o => (g3.alloc o).free; try clear c_g7 f_g7 a_g7 d_g7 e_g7
      replace g7 := g7.below b; have c_g7 := g7.cell; have f_g7 := g7.free; have a_g7 := fun o => (g7.alloc o).cell; have d_g7 := fun o o2 => ((g7.alloc o).alloc o2).cell; have e_g7 := fun o => (g7.alloc o).free; replace om := om.below b; replace B := B.trans (b.mono B.size); clear b
      have c_g4 := g4.cell; have f_g4 := g4.free; have a_g4 := fun o => (g4.alloc o).cell; have d_g4 := fun o o2 => ((g4.alloc o).alloc o2).cell; have e_g4 := fun o => (g4.alloc o).free
      go_wp2_with fail
      have hs1 := own_not_bx om.s g1 (by decide); have hs3 := own_not_bx om.s g3 (by decide); have hs7 := own_not_bx om.s g7 (by decide); have hs4 := own_not_bx om.s g4 (by decide)
      refine (HC.out _ _ _ w.heap.size _ om B.size).mono ?_
      rintro e w5 ⟨rfl, om2, B2, K⟩
      replace g1 := g1.keep K hs1; replace g3 := g3.keep K hs3; replace g7 := g7.keep K hs7; replace g4 := g4.keep K hs4
      replace B := B.trans B2
      clear om B2 K hs1 hs3 hs7 hs4 c_g1 f_g1 a_g1 d_g1 e_g1 c_g3 f_g3 a_g3 d_g3 e_g3 c_g7 f_g7 a_g7 d_g7 e_g7 c_g4 f_g4 a_g4 d_g4 e_g4
      have c_g1 := g1.cell; have c_g3 := g3.cell; have f_g3 := g3.free; have c_g7 := g7.cell; have f_g7 := g7.free; have c_g4 := g4.cell
      have om := om2
      clear om2
      have hp34 := g4.lt
      go_upto_region 8 with (fail)
      refine wp_gen (fun Wv => Bx Wv (w5.heap.size) (28) (#[.int .i64 a, .int .i64 b]) ∧ Below w5.heap.size w5 Wv) ⟨((Bx.at_ (by simp))), ((Below.refl _ w5).alloc (by simp <;> omega) _)⟩ ?_
      rintro wa5 ⟨g9, b⟩
      try clear c_g1 f_g1 a_g1 d_g1 e_g1
      replace g1 := g1.below b; have c_g1 := g1.cell; have f_g1 := g1.free; have a_g1 := fun o => (g1.alloc o).cell; have d_g1 := fun o o2 => ((g1.alloc o).alloc o2).cell; have e_g1 := fun o => (g1.alloc o).free; try clear c_g3 f_g3 a_g3 d_g3 e_g3
      replace g3 := g3.below b; have c_g3 := g3.cell; have f_g3 := g3.free; have a_g3 := fun o => (g3.alloc o).cell; have d_g3 := fun o o2 => ((g3.alloc o).alloc o2).cell; have e_g3 := fun o => (g3.alloc o).free; try clear c_g7 f_g7 a_g7 d_g7 e_g7
      replace g7 := g7.below b; have c_g7 := g7.cell; have f_g7 := g7.free; have a_g7 := fun o => (g7.alloc o).cell; have d_g7 := fun o o2 => ((g7.alloc o).alloc o2).cell; have e_g7 := fun o => (g7.alloc o).free; try clear c_g4 f_g4 a_g4 d_g4 e_g4
      replace g4 := g4.below b; have c_g4 := g4.cell; have f_g4 := g4.free; have a_g4 := fun o => (g4.alloc o).cell; have d_g4 := fun o o2 => ((g4.alloc o).alloc o2).cell; have e_g4 := fun o => (g4.alloc o).free; replace om := om.below b; replace B := B.trans (b.mono B.size); clear b
      have c_g9 := g9.cell; have f_g9 := g9.free; have a_g9 := fun o => (g9.alloc o).cell; have d_g9 := fun o o2 => ((g9.alloc o).alloc o2).cell; have e_g9 := fun o => (g9.alloc o).free
      cases ok
      · have hn : next m.slots = none := by
          rcases HW.out with ⟨_, h⟩ | ⟨h, _⟩
          · exact h
          · cases h
        obtain rfl : r = 23 := HR1.out hn
        obtain ⟨rfl, rfl, rfl⟩ := HNO.out (by decide)
        clear om
        go_wp2
        refine bodyPost_ret (v := .tuple #[.agg #[.slice none 0 0, .slice none 0 0, .slice none 0 0], .agg #[.int .i64 0, .int .i64 0], .int .i64 23]) (by simp [results, Try.results26, go_sem, c_g3, f_g3, c_g7, f_g7]) rfl ?_
        refine ⟨_, _, _, rfl, Mod.nil _, ?_⟩
        (repeat (first | refine Below.setCell ?_ (by first | exact Nat.le_refl _ | (simp <;> omega)) _ | refine Below.alloc ?_ (by first | exact B.size | (have := B.size; simp <;> omega)) _)); exact B
      · obtain ⟨k, s, hnx, hsk, ea, eb, em⟩ : ∃ k s, next m.slots = some k ∧ m.slots[k]? = some s ∧ a = (k : Int) ∧ b = s.gen + 1 ∧ m2 = ⟨m.types, m.objs, m.slots.set k ⟨s.gen + 1, true, (NO : Int)⟩⟩ := by
          rcases HW.out with ⟨h, _⟩ | ⟨_, h⟩
          · cases h
          · exact h
        by_cases h9 : NO = 960
        · obtain rfl : r = 4 := HR2.out k hnx h9
          obtain ⟨rfl, rfl, rfl⟩ := HNO.out (by decide)
          have q9 : ((NO : Int) == 960) = true := by rw [beq_iff_eq]; omega
          clear om
          go_wp2
          refine bodyPost_ret (v := .tuple #[.agg #[.slice none 0 0, .slice none 0 0, .slice none 0 0], .agg #[.int .i64 0, .int .i64 0], .int .i64 4]) (by simp [results, Try.results26, go_sem, c_g3, f_g3, c_g7, f_g7]) rfl ?_
          refine ⟨_, _, _, rfl, Mod.nil _, ?_⟩
          (repeat (first | refine Below.setCell ?_ (by first | exact Nat.le_refl _ | (simp <;> omega)) _ | refine Below.alloc ?_ (by first | exact B.size | (have := B.size; simp <;> omega)) _)); exact B
        · obtain rfl : r = 0 := HR3.out k hnx h9
          have q9 : ((NO : Int) == 960) = false := by rw [beq_eq_false_iff_ne]; omega
          obtain ⟨e1, e2, e3⟩ := HYES.out rfl
          rw [hnx] at e1 e2 e3
          have hgd : m.slots.getD k .none = s := by simp [List.getD_eq_getElem?_getD, hsk]
          have hMM : M = ⟨m2.types, m2.objs ++ [⟨(q : Int), List.replicate l.length 0⟩], m2.slots⟩ := by
            rw [e1, em, ← HNN.out]
            show (⟨m.types, _, m.slots.set k ⟨(m.slots.getD k .none).gen + 1, true, _⟩⟩ : Mo) = _
            rw [hgd]
          have hha : hs = a := by rw [e2, ea]; rfl
          have hhb : hg = b := by rw [e3, eb]; show (m.slots.getD k .none).gen + 1 = _; rw [hgd]
          have hT2 : m2.types[q]? = some l := by rw [em]; exact HLL.out
          have hO2 : m2.objs.length = NO := by rw [em]; exact HNN.out.symm
          subst hha; subst hhb
          have HMM := Lib.hid hMM; have HT2 := Lib.hid hT2; have HO2 := Lib.hid hO2
          have hNO : NO < 960 := by have : m.objs.length ≤ 960 := HX960.out; have := HNN.out; omega
          clear e1 e2 e3 ea eb em hgd hnx hsk hMM hT2 hO2 h9
          go_upto_region 12 with (fail)
          have h59 := g9.lt
          have hB := B.size
          obtain ⟨W1, r1, oy, b1⟩ := run_make_words (w := wa5.drew) l.length (by omega)
          replace r1 : (Instr.makeSlice 70 (.int .i64 (l.length : Int)) (.int .i64 (l.length : Int))).run Try.prog wa5.drew = .ok (.slice (some ⟨wa5.heap.size, 0, none⟩) l.length l.length) W1 := r1
          replace oy : OwnW W1 wa5.heap.size 29 (.slice (some ⟨wa5.heap.size, 0, none⟩) l.length l.length) (List.replicate l.length 0) := oy
          replace b1 : Below wa5.heap.size wa5 W1 := (Below.refl _ wa5).drew.trans b1
          obtain ⟨ad, yr, it, mad, lyr, had⟩ := om.t.at1 HT2.out
          obtain ⟨tvs, t1, t2, t4⟩ := om.t
          obtain ⟨vs, z1, z2, z4, z5⟩ := om.o
          have hz := b1.size
          obtain ⟨v, W3, r3, o3, gr3⟩ := run_append_rd (P := Try.prog) (w := W1.alloc (.cells #[i64 (q : Int), .slice (some ⟨wa5.heap.size, 0, none⟩) l.length l.length] 72)) (ty := 23) (B := w.heap.size) Try.underlying23 info_obj rfl (by omega) (own_below z2 (b1.alloc hz _)) lit_obj (one_obj rfl) (by have := HO2.out; omega) (by have := HO2.out; omega) (by simp; omega)
          have hs9 := own_not_bx z2 g9 (by decide); have hs7 := own_not_bx z2 g7 (by decide)
          have MM := Lib.hid (copyO_mem (o := ⟨(q : Int), List.replicate l.length 0⟩) (a := w.heap.size) (b := w.heap.size + 1) (p := wa3.heap.size) z1 z2 z4 z5 oy b1 o3 gr3 g1 g3 g4 om.t om.s B hB (by omega) (by omega) (by omega) g9 hs9 (by omega))
          have b3 := b1.alloc hz (.cells #[i64 (q : Int), .slice (some ⟨wa5.heap.size, 0, none⟩) l.length l.length] 72)
          have z2' := own_below z2 b3
          have q43 : Bx W3 wa3.heap.size 26 #[.slice tA tn tc, .slice oA on oc, .slice sA sn sc] := Bx.grown (g4.below b3) gr3 (own_not_bx z2' (g4.below b3) (by decide))
          have q7 : Bx (W3.setCell ⟨wa3.heap.size, 1, none⟩ v) (w.heap.size + 1 + 1) 28 #[.int .i64 0, .int .i64 0] := ((g7.below b3).grown gr3 hs7).far (p := ⟨wa3.heap.size, 1, none⟩) (by show w.heap.size + 1 + 1 ≠ wa3.heap.size; omega) v
          have hadO : some ad.block ≠ (Value.slice oA on oc).ownBlock := by
            have := own_unlike t2 z2 (by decide)
            rw [had] at this
            rcases this with h | h
            · cases h
            · exact h
          have hadP : ad.block ≠ wa3.heap.size := by
            have := ne_of_or (own_not_bx t2 g4 (by decide))
            rw [had] at this
            exact fun e => this (by rw [e])
          have m3 : W3.cell? ad = some yr := gr3.cell (cell_later b3 mad) hadO
          obtain ⟨vA, vn, vc, rfl⟩ : ∃ A n c, v = .slice A n c := by obtain ⟨A, c, e⟩ := own_form' o3; exact ⟨A, _, c, e⟩
          have AL : ∀ d, d ≤ 5 → ((wsO wa5 wa3.heap.size (q : Int) ⟨.slice (some ⟨wa5.heap.size, 0, none⟩) l.length l.length, W1, .slice vA vn vc, W3⟩) d).cell? ⟨wa3.heap.size, 0, none⟩ = some (.slice tA tn tc) ∧ ((wsO wa5 wa3.heap.size (q : Int) ⟨.slice (some ⟨wa5.heap.size, 0, none⟩) l.length l.length, W1, .slice vA vn vc, W3⟩) d).cell? ad = some yr := by
            intro d hd
            rcases d with _ | _ | _ | _ | _ | d
            · exact ⟨g4.cell 0, mad⟩
            · exact ⟨(g4.below b1).cell 0, cell_later b1 mad⟩
            · exact ⟨(g4.below b1).cell 0, cell_later b1 mad⟩
            · exact ⟨(g4.below b3).cell 0, cell_later b3 mad⟩
            · exact ⟨q43.cell 0, m3⟩
            · exact ⟨MM.out.2.2.2.2.1.cell 0, cell_far m3 hadP⟩
          have ca := fun x : FXN (FL [9, 10, 11, 12, 14] (wsO wa5 wa3.heap.size (q : Int) ⟨.slice (some ⟨wa5.heap.size, 0, none⟩) l.length l.length, W1, .slice vA vn vc, W3⟩) 1 3) => (FL.all (ks := [9, 10, 11, 12, 14]) (Ws := (wsO wa5 wa3.heap.size (q : Int) ⟨.slice (some ⟨wa5.heap.size, 0, none⟩) l.length l.length, W1, .slice vA vn vc, W3⟩)) (p := fun W => W.cell? ⟨wa3.heap.size, 0, none⟩ = some (.slice tA tn tc) ∧ W.cell? ad = some yr) AL x).1
          have cb := fun x : FXN (FL [9, 10, 11, 12, 14] (wsO wa5 wa3.heap.size (q : Int) ⟨.slice (some ⟨wa5.heap.size, 0, none⟩) l.length l.length, W1, .slice vA vn vc, W3⟩) 1 3) => (FL.all (ks := [9, 10, 11, 12, 14]) (Ws := (wsO wa5 wa3.heap.size (q : Int) ⟨.slice (some ⟨wa5.heap.size, 0, none⟩) l.length l.length, W1, .slice vA vn vc, W3⟩)) (p := fun W => W.cell? ⟨wa3.heap.size, 0, none⟩ = some (.slice tA tn tc) ∧ W.cell? ad = some yr) AL x).2
          have p0 := g4.cell 1; have p1 := (g4.below b1).cell 1; have p3 := (g4.below b3).cell 1
          haveI : Nonempty (FXN (FL [9, 10, 11, 12, 14] (wsO wa5 wa3.heap.size (q : Int) ⟨.slice (some ⟨wa5.heap.size, 0, none⟩) l.length l.length, W1, .slice vA vn vc, W3⟩) 1 3)) := ⟨⟨_, _, FL.start⟩⟩
          clear c_g1 f_g1 a_g1 d_g1 e_g1 c_g3 f_g3 a_g3 d_g3 e_g3 c_g7 f_g7 a_g7 d_g7 e_g7 c_g4 f_g4 a_g4 d_g4 e_g4 c_g9 f_g9 a_g9 d_g9 e_g9
          refine wp_region_N (FL [9, 10, 11, 12, 14] (wsO wa5 wa3.heap.size (q : Int) ⟨.slice (some ⟨wa5.heap.size, 0, none⟩) l.length l.length, W1, .slice vA vn vc, W3⟩) 1 3) [1, 9, 10, 11, 12, 14] FL.dep (by kernel_rfl) (by kernel_rfl) (by kernel_rfl) FL.start ?_
          refine wpN_read FL.dep rfl (by decide) ?_; go_big_quiet_step (fail); refine wpQuiet_nil ?_
          refine wpN_step FL.dep rfl (by rfl) (v := .slice oA on oc) [] rfl (fun f W hF h0 _ => ?_) ?_
          · obtain ⟨⟨d, hd, hd2, rfl⟩, hF'⟩ := FL.read (by decide) hF h0
            refine ⟨_, ?_, hF'⟩
            have hc : ((wsO wa5 wa3.heap.size (q : Int) ⟨.slice (some ⟨wa5.heap.size, 0, none⟩) l.length l.length, W1, .slice vA vn vc, W3⟩) d).cell? ⟨wa3.heap.size, 1, none⟩ = some (.slice oA on oc) := by
              rcases d with _ | _ | _ | _ | d
              · exact p0
              · exact p1
              · exact p1
              · exact p3
              · omega
            simp [execOp, go_sem, hc]
          simp only [Act.put, List.setIfInBounds_toArray, List.set_cons_zero, List.set_cons_succ]
          iterate 6 (refine wpN_read FL.dep rfl (by decide) ?_; go_big_quiet_step (fail); refine wpQuiet_nil ?_)
          refine wpN_len FL.dep rfl (by decide) rfl (fun W => lyr _ W) ?_
          simp only [Act.put, List.setIfInBounds_toArray, List.set_cons_zero, List.set_cons_succ]
          refine wpN_step FL.dep rfl (by rfl) (v := .slice (some ⟨wa5.heap.size, 0, none⟩) l.length l.length) [] (by kernel_rfl) (fun f W hF h0 h1 => ?_) ?_
          · obtain ⟨rfl, h2⟩ := FL.step (i := 0) rfl (by decide) hF h0 (by intro p hp; omega) (by omega)
            exact ⟨_, by simp [execOp, Act.eval, wsO, r1], h2⟩
          simp only [Act.put, List.setIfInBounds_toArray, List.set_cons_zero, List.set_cons_succ]
          refine wpN_step FL.dep rfl (by rfl) (v := .agg #[i64 (q : Int), .slice (some ⟨wa5.heap.size, 0, none⟩) l.length l.length]) [9] (by kernel_rfl) (fun f W hF h0 h1 => ?_) ?_
          · obtain ⟨rfl, h2⟩ := FL.step (i := 1) rfl (by decide) hF h0 (FL.prev (p := 0) (q := 9) rfl (h1 9 (by simp))) (by omega)
            exact ⟨_, by simp [execOp, go_sem, wsO, i64], h2⟩
          simp only [Act.put, List.setIfInBounds_toArray, List.set_cons_zero, List.set_cons_succ]
          refine wpN_step FL.dep rfl (by rfl) (v := .slice (some ⟨W1.heap.size, 0, none⟩) 1 1) [10] (by kernel_rfl) (fun f W hF h0 h1 => ?_) ?_
          · obtain ⟨rfl, h2⟩ := FL.step (i := 2) rfl (by decide) hF h0 (FL.prev (p := 1) (q := 10) rfl (h1 10 (by simp))) (by omega)
            exact ⟨_, by simp [execOp, go_sem, wsO, i64], h2⟩
          simp only [Act.put, List.setIfInBounds_toArray, List.set_cons_zero, List.set_cons_succ]
          refine wpN_step FL.dep rfl (by rfl) (v := .slice vA vn vc) [11, 1] (by kernel_rfl) (fun f W hF h0 h1 => ?_) ?_
          · obtain ⟨rfl, h2⟩ := FL.step (i := 3) rfl (by decide) hF h0 (FL.prev (p := 2) (q := 11) rfl (h1 11 (by simp))) (fun _ => h1 1 (by simp))
            exact ⟨_, by simp [execOp, resolve, invoke, builtin, Act.eval, wsO, r3], h2⟩
          simp only [Act.put, List.setIfInBounds_toArray, List.set_cons_zero, List.set_cons_succ]
          refine wpN_read FL.dep rfl (by decide) ?_; go_big_quiet_step (fail); refine wpQuiet_nil ?_
          refine wpN_storeD FL.dep rfl 23 (.tmp 62) (.tmp 61) rfl (by rfl) (p := .pointer (some ⟨wa3.heap.size, 1, none⟩)) (u := .slice vA vn vc) (by rfl) (by rfl) [12] (by kernel_rfl) (fun f W hF h0 h1 => ?_) ?_
          · obtain ⟨rfl, h2⟩ := FL.step (i := 4) rfl (by decide) hF h0 (FL.prev (p := 3) (q := 12) rfl (h1 12 (by simp))) (by omega)
            refine ⟨_, ?_, h2⟩
            have hc := MM.out.1.1; have hf := MM.out.1.2
            simp [go_sem, wsO, hc, hf]
          simp only [Act.put]
          show ∀ w', _ → _
          intro w' hw'
          obtain rfl := FL.done hw'
          have HM := Lib.hid (And.intro MM.out.2 q7)
          clear this ca cb AL MM q7 q43 m3 p0 p1 p3 om B g1 g3 g7 g4 g9 z1 z2 z4 z5 t1 t2 t4 z2' b1 b3 r1 r3 o3 gr3 oy mad hs9 hs7 hw'
          go_upto_region 13 with (fail)
          obtain ⟨⟨k1, k2, k3, k4, k5, k6, k7, _, k9⟩, k8⟩ := HM.out
          have oM : OwnM (W3.setCell ⟨wa3.heap.size, 1, none⟩ (.slice vA vn vc)) w.heap.size 67 (.slice tA tn tc) (.slice vA vn vc) (.slice sA sn sc) M := by rw [HMM.out]; exact ⟨k5, k1, k6⟩
          refine wp_gen (fun Wv => OwnM Wv w.heap.size 67 (.slice tA tn tc) (.slice vA vn vc) (.slice sA sn sc) M ∧ Bx Wv (w.heap.size + 1) 26 #[.slice none 0 0, .slice none 0 0, .slice none 0 0] ∧ Bx Wv (w.heap.size + 1 + 1) 28 #[.int .i64 0, .int .i64 0] ∧ Bx Wv wa3.heap.size 26 #[.slice tA tn tc, .slice vA vn vc, .slice sA sn sc] ∧ Bx Wv w5.heap.size 28 #[.int .i64 hs, .int .i64 hg] ∧ Below w.heap.size w Wv) ⟨oM, k3, k8, k4, k9, k7⟩ ?_
          rintro wz ⟨om, g3, g7, g4, g9, B⟩
          clear k1 k2 k3 k4 k5 k6 k7 k8 k9 oM HM
          have START : (FTwoR w w.heap.size (.slice tA tn tc) (.slice vA vn vc) (.slice sA sn sc) M (w.heap.size + 1 + 1) wa3.heap.size w5.heap.size (w.heap.size + 1) hs hg) (fun _ => false) wz.drew := ⟨B.drew, ⟨om.t, om.o, om.s⟩, g3, g7, g4, g9⟩
          haveI : Nonempty (FXN (FTwoR w w.heap.size (.slice tA tn tc) (.slice vA vn vc) (.slice sA sn sc) M (w.heap.size + 1 + 1) wa3.heap.size w5.heap.size (w.heap.size + 1) hs hg)) := ⟨⟨_, _, START⟩⟩
          have ca := fun x : FXN (FTwoR w w.heap.size (.slice tA tn tc) (.slice vA vn vc) (.slice sA sn sc) M (w.heap.size + 1 + 1) wa3.heap.size w5.heap.size (w.heap.size + 1) hs hg) => (by obtain ⟨_, h⟩ := x.h; exact h.2.2.2.2.1 : Bx x.W wa3.heap.size 26 #[.slice tA tn tc, .slice vA vn vc, .slice sA sn sc]).cell
          have cb := fun x : FXN (FTwoR w w.heap.size (.slice tA tn tc) (.slice vA vn vc) (.slice sA sn sc) M (w.heap.size + 1 + 1) wa3.heap.size w5.heap.size (w.heap.size + 1) hs hg) => (by obtain ⟨_, h⟩ := x.h; exact h.2.2.2.2.2 : Bx x.W w5.heap.size 28 #[.int .i64 hs, .int .i64 hg]).cell
          clear om B g3 g7 g4 g9
          refine wp_region_N (FTwoR w w.heap.size (.slice tA tn tc) (.slice vA vn vc) (.slice sA sn sc) M (w.heap.size + 1 + 1) wa3.heap.size w5.heap.size (w.heap.size + 1) hs hg) [2, 3] FTwoR.dep (by kernel_rfl) (by kernel_rfl) (by kernel_rfl) START ?_
          iterate 2 (refine wpN_read FTwoR.dep rfl (by decide) ?_; go_big_quiet_step (fail); refine wpQuiet_nil ?_)
          refine wpN_storeD FTwoR.dep rfl 26 (.tmp 4) (.tmp 63) rfl (by rfl) (p := .pointer (some ⟨w.heap.size + 1, 0, none⟩)) (u := .agg #[.slice tA tn tc, .slice vA vn vc, .slice sA sn sc]) (by rfl) (by rfl) [] (by kernel_rfl) (fun f W hF h0 h1 => ?_) ?_
          · obtain ⟨k0, k1, h2⟩ := FTwoR.store2 hF h0 (by omega) (by omega) (by omega) (by omega)
            refine ⟨_, ?_, h2⟩
            simp [go_sem, k0, k1]
          simp only [Act.put, List.setIfInBounds_toArray, List.set_cons_zero, List.set_cons_succ]
          refine wpN_storeD FTwoR.dep rfl 28 (.tmp 5) (.tmp 64) rfl (by rfl) (p := .pointer (some ⟨w.heap.size + 1 + 1, 0, none⟩)) (u := .agg #[.int .i64 hs, .int .i64 hg]) (by rfl) (by rfl) [] (by kernel_rfl) (fun f W hF h0 h1 => ?_) ?_
          · obtain ⟨k0, k1, h2⟩ := FTwoR.store3 hF h0 (by omega) (by omega) (by omega) (by omega)
            refine ⟨_, ?_, h2⟩
            simp [go_sem, k0, k1]
          simp only [Act.put, List.setIfInBounds_toArray, List.set_cons_zero, List.set_cons_succ]
          iterate 1 (refine wpN_read FTwoR.dep rfl (by decide) ?_; go_big_quiet_step (fail); refine wpQuiet_nil ?_)
          show ∀ w', _ → _
          intro w' hF
          obtain ⟨B, om, g3, g7, _, _⟩ := hF
          have c3 := g3.cell; have c7 := g7.cell
          simp only [if_true] at c3 c7
          clear this ca cb START
          go_wp2
          refine bodyPost_ret (v := .tuple #[.agg #[.slice tA tn tc, .slice vA vn vc, .slice sA sn sc], .agg #[.int .i64 hs, .int .i64 hg], .int .i64 0]) (by simp [results, Try.results26, go_sem, c3, c7]) rfl ?_
          exact ⟨_, _, _, rfl, om.rd, B⟩
    · have hr1 : r = 2 := by rw [hr, allE, if_pos h0, if_neg (by omega)]
      obtain ⟨e1, e2, e3⟩ := hno (by rw [hr1]; decide)
      have hcase : t < 0 ∨ ¬ t < 0 ∧ (NT : Int) ≤ t := by omega
      subst hr1; subst e1; subst e2; subst e3
      clear hr hM hhs hhg hno h0 h hc ht hNT
      rcases hcase with n1 | ⟨n1, n2⟩
      all_goals
        go_enter Try.func26, Try.ntmps26
        go_upto_region 1 with (fail)
        refine wp_gen (fun Wv => Bx Wv (w.heap.size) (26) (#[tv, ov, sv]) ∧ Bx Wv (w.heap.size + 1) (26) (#[.slice none 0 0, .slice none 0 0, .slice none 0 0]) ∧ Bx Wv (w.heap.size + 1 + 1) (28) (#[.int .i64 0, .int .i64 0]) ∧ Below w.heap.size w Wv) ⟨((((Bx.at_ (by simp)).alloc _).alloc _)), (((Bx.at_ (by simp)).alloc _)), ((Bx.at_ (by simp))), ((((Below.refl _ w).alloc (by simp <;> omega) _).alloc (by simp <;> omega) _).alloc (by simp <;> omega) _)⟩ ?_
        rintro wa1 ⟨g1, g3, g7, b⟩
        replace B := B.trans (b.mono B.size); clear b
        have c_g1 := g1.cell; have f_g1 := g1.free; have a_g1 := fun o => (g1.alloc o).cell; have d_g1 := fun o o2 => ((g1.alloc o).alloc o2).cell; have e_g1 := fun o => (g1.alloc o).free
        have c_g3 := g3.cell; have f_g3 := g3.free; have a_g3 := fun o => (g3.alloc o).cell; have d_g3 := fun o o2 => ((g3.alloc o).alloc o2).cell; have e_g3 := fun o => (g3.alloc o).free
        have c_g7 := g7.cell; have f_g7 := g7.free; have a_g7 := fun o => (g7.alloc o).cell; have d_g7 := fun o o2 => ((g7.alloc o).alloc o2).cell; have e_g7 := fun o => (g7.alloc o).free
        go_wp2_with fail
        refine (CT.out _ (H.out.below B)).mono ?_
        rintro e wa2 ⟨rfl, b⟩
        try clear c_g1 f_g1 a_g1 d_g1 e_g1
        replace g1 := g1.below b; have c_g1 := g1.cell; have f_g1 := g1.free; have a_g1 := fun o => (g1.alloc o).cell; have d_g1 := fun o o2 => ((g1.alloc o).alloc o2).cell; have e_g1 := fun o => (g1.alloc o).free; try clear c_g3 f_g3 a_g3 d_g3 e_g3
        replace g3 := g3.below b; have c_g3 := g3.cell; have f_g3 := g3.free; have a_g3 := fun o => (g3.alloc o).cell; have d_g3 := fun o o2 => ((g3.alloc o).alloc o2).cell; have e_g3 := fun o => (g3.alloc o).free; try clear c_g7 f_g7 a_g7 d_g7 e_g7
        replace g7 := g7.below b; have c_g7 := g7.cell; have f_g7 := g7.free; have a_g7 := fun o => (g7.alloc o).cell; have d_g7 := fun o o2 => ((g7.alloc o).alloc o2).cell; have e_g7 := fun o => (g7.alloc o).free; replace B := B.trans (b.mono B.size); clear b
        go_wp2
        refine bodyPost_ret (v := .tuple #[.agg #[.slice none 0 0, .slice none 0 0, .slice none 0 0], .agg #[.int .i64 0, .int .i64 0], .int .i64 2]) (by simp [results, Try.results26, go_sem, c_g3, f_g3, c_g7, f_g7]) rfl ?_
        refine ⟨_, _, _, rfl, Mod.nil _, ?_⟩
        (repeat (first | refine Below.setCell ?_ (by first | exact Nat.le_refl _ | (simp <;> omega)) _ | refine Below.alloc ?_ (by first | exact B.size | (have := B.size; simp <;> omega)) _)); exact B
  · have hr1 : r = c := by rw [hr, allE, if_neg h0, hc]
    have hne : (c != 0) = true := by rw [bne_iff_ne, hc]; exact h0
    obtain ⟨e1, e2, e3⟩ := hno (by rw [hr1, hc]; exact h0)
    subst hr1; subst e1; subst e2; subst e3
    clear hr hM hhs hhg hno h0 h hc hNT
    go_enter Try.func26, Try.ntmps26
    go_upto_region 1 with (fail)
    refine wp_gen (fun Wv => Bx Wv (w.heap.size) (26) (#[tv, ov, sv]) ∧ Bx Wv (w.heap.size + 1) (26) (#[.slice none 0 0, .slice none 0 0, .slice none 0 0]) ∧ Bx Wv (w.heap.size + 1 + 1) (28) (#[.int .i64 0, .int .i64 0]) ∧ Below w.heap.size w Wv) ⟨((((Bx.at_ (by simp)).alloc _).alloc _)), (((Bx.at_ (by simp)).alloc _)), ((Bx.at_ (by simp))), ((((Below.refl _ w).alloc (by simp <;> omega) _).alloc (by simp <;> omega) _).alloc (by simp <;> omega) _)⟩ ?_
    rintro wa1 ⟨g1, g3, g7, b⟩
    replace B := B.trans (b.mono B.size); clear b
    have c_g1 := g1.cell; have f_g1 := g1.free; have a_g1 := fun o => (g1.alloc o).cell; have d_g1 := fun o o2 => ((g1.alloc o).alloc o2).cell; have e_g1 := fun o => (g1.alloc o).free
    have c_g3 := g3.cell; have f_g3 := g3.free; have a_g3 := fun o => (g3.alloc o).cell; have d_g3 := fun o o2 => ((g3.alloc o).alloc o2).cell; have e_g3 := fun o => (g3.alloc o).free
    have c_g7 := g7.cell; have f_g7 := g7.free; have a_g7 := fun o => (g7.alloc o).cell; have d_g7 := fun o o2 => ((g7.alloc o).alloc o2).cell; have e_g7 := fun o => (g7.alloc o).free
    go_wp2_with fail
    refine (CT.out _ (H.out.below B)).mono ?_
    rintro e wa2 ⟨rfl, b⟩
    try clear c_g1 f_g1 a_g1 d_g1 e_g1
    replace g1 := g1.below b; have c_g1 := g1.cell; have f_g1 := g1.free; have a_g1 := fun o => (g1.alloc o).cell; have d_g1 := fun o o2 => ((g1.alloc o).alloc o2).cell; have e_g1 := fun o => (g1.alloc o).free; try clear c_g3 f_g3 a_g3 d_g3 e_g3
    replace g3 := g3.below b; have c_g3 := g3.cell; have f_g3 := g3.free; have a_g3 := fun o => (g3.alloc o).cell; have d_g3 := fun o o2 => ((g3.alloc o).alloc o2).cell; have e_g3 := fun o => (g3.alloc o).free; try clear c_g7 f_g7 a_g7 d_g7 e_g7
    replace g7 := g7.below b; have c_g7 := g7.cell; have f_g7 := g7.free; have a_g7 := fun o => (g7.alloc o).cell; have d_g7 := fun o o2 => ((g7.alloc o).alloc o2).cell; have e_g7 := fun o => (g7.alloc o).free; replace B := B.trans (b.mono B.size); clear b
    go_wp2
    refine bodyPost_ret (v := .tuple #[.agg #[.slice none 0 0, .slice none 0 0, .slice none 0 0], .agg #[.int .i64 0, .int .i64 0], .int .i64 r]) (by simp [results, Try.results26, go_sem, c_g3, f_g3, c_g7, f_g7]) rfl ?_
    refine ⟨_, _, _, rfl, Mod.nil _, ?_⟩
    (repeat (first | refine Below.setCell ?_ (by first | exact Nat.le_refl _ | (simp <;> omega)) _ | refine Below.alloc ?_ (by first | exact B.size | (have := B.size; simp <;> omega)) _)); exact B
end Go.Proofs.Ytgjpohhafmkhcaa
namespace Go.Proofs.Ytgjpohhafmkhcaa
open Go.RowKit L02 L13 L18 L20
end Go.Proofs.Ytgjpohhafmkhcaa
namespace Go.Proofs.Ytgjpohhafmkhcaa
open Go.RowKit L02 L13 L18 L20
theorem ob_at {m : Mo} {i : Nat} {o : Ob} (h : m.objs[i]? = some o) : ob m i = o := by simp [ob, List.getD_eq_getElem?_getD, h]
theorem busy_cases (d : Int) (sl : Int) (s : Sl) (n : Nat) : ((d != sl) = false) ∨ ((d != sl) = true ∧ s.used = false) ∨ ((d != sl) = true ∧ s.used = true ∧ (s.at_ == (n : Int)) = false) ∨ ((d != sl) = true ∧ s.used = true ∧ (s.at_ == (n : Int)) = true) := by
  by_cases h : d = sl
  · exact .inl (by rw [bne_eq_false_iff_eq]; exact h)
  · have h' : (d != sl) = true := by rw [bne_iff_ne]; exact h
    cases hu : s.used
    · exact .inr (.inl ⟨h', rfl⟩)
    · by_cases ha : s.at_ = n
      · exact .inr (.inr (.inr ⟨h', rfl, by rw [beq_iff_eq]; exact ha⟩))
      · exact .inr (.inr (.inl ⟨h', rfl, by rw [beq_eq_false_iff_ne]; exact ha⟩))
set_option maxRecDepth 100000 in
set_option maxHeartbeats 16000000 in
theorem Busy_any (tv ov sv : Value) (m : Mo) (sl : Int) (n : Nat) (b : Bool) (hb : b = decide (Busy m sl n)) (hc : chk m = 0) (hn : n ≤ 1000) (w : World) (h : Mod w tv ov sv m) :
    Calls Try.prog 35 #[.agg #[tv, ov, sv], .int .i64 sl, .int .i64 n] w fun e w' => e = .returned (.bool b) ∧ Below w.heap.size w w' := by
  have B : Below w.heap.size w w := Below.refl _ _
  have lo := h.o.len; have ls := h.s.len
  have hyes : Busy m sl n → b = true := fun h2 => by rw [hb, decide_eq_true h2]
  obtain ⟨k1, k2, k3⟩ := chk_ok hc
  obtain ⟨NO, hNO⟩ : ∃ N, N = m.objs.length := ⟨_, rfl⟩
  obtain ⟨NS, hNS⟩ : ∃ N, N = m.slots.length := ⟨_, rfl⟩
  rw [← hNO] at lo; rw [← hNS] at ls
  have hw1 : IntKind.i64.wrap ((n : Int) + 1) = (n : Int) + 1 := IntWalk.i64_in _ (by omega)
  have hw2 : IntKind.u64.wrap ((n : Int) + 1) = (n : Int) + 1 := by show ((n : Int) + 1) % 18446744073709551616 = _; omega
  have hNO2 : NO ≤ 960 := by omega
  have hNS2 : NS = 16 := by rw [hNS]; exact k3.1
  have H := Lib.hid h; have HNO := Lib.hid hNO; have HNS := Lib.hid hNS; have HY := Lib.hid hyes; have HB0 := Lib.hid hb; have HK := Lib.hid k3.2.2.1; have HSM := Lib.hid (small_chk hc); have hNS3 : NS ≤ 16 := by omega
  clear h hNO hNS hyes hb k1 k2 k3 hc hNS2
  go_enter Try.func35, Try.ntmps35
  go_upto_region 1 with (fail)
  refine wp_gen (fun Wv => Bx Wv (w.heap.size) (26) (#[tv, ov, sv]) ∧ Below w.heap.size w Wv) ⟨((Bx.at_ (by simp))), ((Below.refl _ w).alloc (by simp <;> omega) _)⟩ ?_
  rintro wa1 ⟨g1, b⟩
  replace B := B.trans (b.mono B.size); clear b
  have c_g1 := g1.cell; have f_g1 := g1.free; have a_g1 := fun o => (g1.alloc o).cell; have d_g1 := fun o o2 => ((g1.alloc o).alloc o2).cell; have e_g1 := fun o => (g1.alloc o).free
  have HB := Lib.hid B; clear B
  go_wp2
  have HG1 := Lib.hid g1
  clear g1 c_g1 f_g1 a_g1 d_g1 e_g1
  go_loopg [7] NS (fun g i wr => ∃ j : Nat, j ≤ NS ∧ g = NS - j ∧ i = .int .i64 j ∧ Hid ((∀ i : Nat, i < j → ¬ ((i : Int) ≠ sl ∧ (m.slots.getD i .none).used = true ∧ (m.slots.getD i .none).at_ = n)) ∧ Bx wr w.heap.size 26 #[tv, ov, sv] ∧ Below w.heap.size w wr))
  case atStart => exact ⟨0, by omega, by omega, rfl, Lib.hid ⟨fun i hi => by omega, HG1.out, HB.out⟩⟩
  case round =>
    clear HG1 HB
    obtain ⟨j, hj, rfl, rfl, hh⟩ := hrel
    have g1 := hh.out.2.1
    have c_g1 := g1.cell
    by_cases hlt : j < NS
    · obtain ⟨bb, q, s, ix, m0, m1, m2, hs⟩ := (H.out.s.below hh.out.2.2).at_ (P := Try.prog) Try.underlying24 size_slot (k := j) (by have := HNS.out; omega)
      have hgd : m.slots.getD j .none = s := by simp [List.getD_eq_getElem?_getD, hs.out]
      have hcase := busy_cases (j : Int) sl s n
      obtain ⟨gn, us, a⟩ := s
      have HS := Lib.hid hgd
      clear hgd hs
      dsimp only at *
      have HJ := Lib.hid (fun (hx : ¬ ((j : Int) ≠ sl ∧ us = true ∧ a = (n : Int))) => show ∀ i : Nat, i < j + 1 → ¬ ((i : Int) ≠ sl ∧ (m.slots.getD i .none).used = true ∧ (m.slots.getD i .none).at_ = n) from fun i hi => by
        by_cases hij : i < j
        · exact hh.out.1 i hij
        · obtain rfl : i = j := by omega
          rw [HS.out]; exact hx)
      rcases hcase with e1 | ⟨e1, rfl⟩ | ⟨e1, rfl, e3⟩ | ⟨e1, rfl, e3⟩
      · have HR := Lib.hid (HJ.out (fun hx => by rw [bne_eq_false_iff_eq] at e1; exact hx.1 e1))
        clear HJ
        go_wp2
        go_roundg (NS - (j + 1))
        case measure => omega
        case rel => exact ⟨j + 1, by omega, rfl, by go_num, Lib.hid ⟨HR.out, hh.out.2⟩⟩
      · have HR := Lib.hid (HJ.out (fun hx => by cases hx.2.1))
        clear HJ
        go_wp2
        go_roundg (NS - (j + 1))
        case measure => omega
        case rel => exact ⟨j + 1, by omega, rfl, by go_num, Lib.hid ⟨HR.out, hh.out.2⟩⟩
      · have HR := Lib.hid (HJ.out (fun hx => by rw [beq_eq_false_iff_ne] at e3; exact e3 hx.2.2))
        clear HJ
        go_wp2
        go_roundg (NS - (j + 1))
        case measure => omega
        case rel => exact ⟨j + 1, by omega, rfl, by go_num, Lib.hid ⟨HR.out, hh.out.2⟩⟩
      · obtain rfl := HY.out (.inl ⟨j, by have := HNS.out; omega, by rw [bne_iff_ne] at e1; exact e1, by rw [HS.out], by rw [HS.out]; rw [beq_iff_eq] at e3; exact e3⟩)
        clear HJ
        go_wp2
        go_ret
        exact ⟨rfl, hh.out.2.2⟩
    · obtain rfl : j = NS := by omega
      have HT := Lib.hid hh.out.1; have HB := Lib.hid hh.out.2.2
      clear hh
      go_wp2
      have HG1 := Lib.hid g1
      clear g1 c_g1
      go_loopg [8] NO (fun g i wr => ∃ k : Nat, k ≤ NO ∧ g = NO - k ∧ i = .int .i64 k ∧ Hid ((∀ i : Nat, i < k → ¬ (i ≠ n ∧ ∃ p, p < (ob m i).fs.length ∧ isRef m (ob m i) p n)) ∧ Bx wr w.heap.size 26 #[tv, ov, sv] ∧ Below w.heap.size w wr))
      case atStart => exact ⟨0, by omega, by omega, rfl, Lib.hid ⟨fun i hi => by omega, HG1.out, HB.out⟩⟩
      case round =>
        clear HG1 HB
        obtain ⟨k, hk, rfl, rfl, hh⟩ := hrel
        have g1 := hh.out.2.1
        have c_g1 := g1.cell
        by_cases hltk : k < NO
        · obtain ⟨o, ho⟩ : ∃ o, m.objs[k]? = some o := ⟨_, List.getElem?_eq_getElem (by have := HNO.out; omega)⟩
          have hoo := HK.out o (List.mem_of_getElem? ho)
          obtain ⟨q, hq⟩ := Int.eq_ofNat_of_zero_le hoo.1.1
          have hqt : q < m.types.length := by have := hoo.1.2; omega
          obtain ⟨t, ht⟩ : ∃ t, m.types[q]? = some t := ⟨_, List.getElem?_eq_getElem hqt⟩
          have htt : ty m.types o = t := by rw [ty, hq]; simp [List.getD_eq_getElem?_getD, ht]
          obtain ⟨nf, hnf⟩ : ∃ N, N = o.fs.length := ⟨_, rfl⟩
          have hlt2 : nf = t.length := by rw [hnf, hoo.2.1, htt]
          have hnf20 : nf ≤ 20 := by rw [hnf]; exact HSM.out.2.2.2.2 o (List.mem_of_getElem? ho)
          have HE := Lib.hid (show ob m k = o from ob_at ho)
          have hall := hh.out
          have HNF := Lib.hid hnf; have HO := Lib.hid ho; have HT := Lib.hid ht; have HQ := Lib.hid hq; have HL := Lib.hid hlt2; have HTT := Lib.hid htt; have HQT := Lib.hid hqt
          clear hoo hq hqt ht htt hnf hlt2 ho
          go_wp2
          have HALL := Lib.hid hall
          clear g1 c_g1 hh hall
          go_loopg [9] nf (fun g i wr2 => ∃ p : Nat, p ≤ nf ∧ g = nf - p ∧ i = .int .i64 p ∧ Hid ((∀ p', p' < p → ¬ (k ≠ n ∧ isRef m o p' n)) ∧ Bx wr2 w.heap.size 26 #[tv, ov, sv] ∧ Below w.heap.size w wr2))
          case atStart => exact ⟨0, by omega, by omega, rfl, Lib.hid ⟨fun i hi => by omega, HALL.out.2⟩⟩
          case round =>
            obtain ⟨p, hp, rfl, rfl, hh⟩ := hrel
            have g1 := hh.out.2.1
            have c_g1 := g1.cell
            have B := hh.out.2.2
            obtain ⟨bo, oq, x, o2, ix, m0, m1, ho2, hx, hob⟩ := (H.out.o.below B).at_ (k := k) (by have := HNO.out; omega)
            obtain rfl : o2 = o := by have := ho2.out; rw [HO.out] at this; injection this with e; exact e.symm
            have hxx := hx.out
            obtain ⟨xA, xn, xc, rfl⟩ : ∃ A n c, x = .slice A n c := by obtain ⟨A, c, e, _⟩ := hx.out; exact ⟨A, _, c, e⟩
            have lx := Rd.len hxx Try.underlying70
            rw [← HNF.out] at lx
            clear hx ho2
            by_cases hltp : p < nf
            · obtain ⟨ad, y, t2, iy, m2, ht2, hby⟩ := (H.out.t.below B).at_ HQT.out
              obtain rfl : t2 = t := by have := ht2.out; rw [HT.out] at this; injection this with e; exact e.symm
              obtain ⟨bd, kk, ib, m3, hkk⟩ := hby.out.at_ (P := Try.prog) Try.underlying74 one_u8 (k := p) (by have := HL.out; omega)
              obtain ⟨cd, v, ic, m4, hv⟩ := hxx.at_ (P := Try.prog) Try.underlying70 one_u64 (k := p) (by have := HNF.out; omega)
              have hir : isRef m o2 p n ↔ kk.toNat = 3 ∧ v.toNat = n + 1 := by rw [isRef, HTT.out]; simp [List.getD_eq_getElem?_getD, hkk.out, hv.out]
              have HJ := Lib.hid (fun (hx : ¬ (k ≠ n ∧ kk.toNat = 3 ∧ v.toNat = n + 1)) => show ∀ p', p' < p + 1 → ¬ (k ≠ n ∧ isRef m o2 p' n) from fun i hi => by
                by_cases hij : i < p
                · exact hh.out.1 i hij
                · obtain rfl : i = p := by omega
                  rw [hir]; exact hx)
              have HI := Lib.hid hir
              rw [HQ.out] at m0
              clear ht2 hby hkk hv hir hh
              have hcase : ((k : Int) != (n : Int)) = false ∨ (((k : Int) != (n : Int)) = true ∧ ((kk.toNat : Int) == 3) = false) ∨ (((k : Int) != (n : Int)) = true ∧ ((kk.toNat : Int) == 3) = true ∧ ((v.toNat : Int) == (n : Int) + 1) = false) ∨ (((k : Int) != (n : Int)) = true ∧ ((kk.toNat : Int) == 3) = true ∧ ((v.toNat : Int) == (n : Int) + 1) = true) := by
                by_cases h1 : k = n
                · exact .inl (by rw [bne_eq_false_iff_eq]; omega)
                · have h1' : ((k : Int) != (n : Int)) = true := by rw [bne_iff_ne]; omega
                  by_cases h2 : kk.toNat = 3
                  · have h2' : ((kk.toNat : Int) == 3) = true := by rw [beq_iff_eq]; omega
                    by_cases h3 : v.toNat = n + 1
                    · exact .inr (.inr (.inr ⟨h1', h2', by rw [beq_iff_eq]; omega⟩))
                    · exact .inr (.inr (.inl ⟨h1', h2', by rw [beq_eq_false_iff_ne]; omega⟩))
                  · exact .inr (.inl ⟨h1', by rw [beq_eq_false_iff_ne]; omega⟩)
              rcases hcase with e1 | ⟨e1, e2⟩ | ⟨e1, e2, e3⟩ | ⟨e1, e2, e3⟩
              · have HR := Lib.hid (HJ.out (fun hx => by rw [bne_eq_false_iff_eq] at e1; omega))
                clear HJ
                go_wp2
                refine wp_region_calm (by kernel_rfl) (by kernel_rfl) ?_
                try clear c_g1 f_g1 a_g1 d_g1 e_g1
                have c_g1 := fun x : Fut _ => (g1.below x.h).cell
                have c_m0 := fun x : Fut _ => cell_later x.h m0
                have c_m1 := fun x : Fut _ => cell_later x.h m1
                have c_m2 := fun x : Fut _ => cell_later x.h m2
                have c_m3 := fun x : Fut _ => cell_later x.h m3
                have c_m4 := fun x : Fut _ => cell_later x.h m4
                repeat (go_big_quiet_step (fail))
                refine wpQuiet_nil ?_
                intro _ hw'
                obtain ⟨xq, hw''⟩ := hw'
                subst hw''
                clear c_g1; replace g1 := g1.below xq.h; have c_g1 := g1.cell; have f_g1 := g1.free; have a_g1 := fun o => (g1.alloc o).cell; have d_g1 := fun o o2 => ((g1.alloc o).alloc o2).cell; have e_g1 := fun o => (g1.alloc o).free
                clear c_m0; replace m0 := cell_later xq.h m0
                clear c_m1; replace m1 := cell_later xq.h m1
                clear c_m2; replace m2 := cell_later xq.h m2
                clear c_m3; replace m3 := cell_later xq.h m3
                clear c_m4; replace m4 := cell_later xq.h m4
                replace hxx := hxx.below xq.h
                replace B := B.trans (xq.h.mono B.size)
                go_wp2
                have HH := Lib.hid (And.intro HR.out (And.intro g1 B))
                clear g1 c_g1 f_g1 a_g1 d_g1 e_g1 B m0 m1 m2 m3 m4 hxx
                go_roundg (nf - (p + 1))
                case measure => omega
                case rel => exact ⟨p + 1, by omega, rfl, by go_num, Lib.hid HH.out⟩
              · have HR := Lib.hid (HJ.out (fun hx => by rw [beq_eq_false_iff_ne] at e2; omega))
                clear HJ
                go_wp2
                refine wp_region_calm (by kernel_rfl) (by kernel_rfl) ?_
                try clear c_g1 f_g1 a_g1 d_g1 e_g1
                have c_g1 := fun x : Fut _ => (g1.below x.h).cell
                have c_m0 := fun x : Fut _ => cell_later x.h m0
                have c_m1 := fun x : Fut _ => cell_later x.h m1
                have c_m2 := fun x : Fut _ => cell_later x.h m2
                have c_m3 := fun x : Fut _ => cell_later x.h m3
                have c_m4 := fun x : Fut _ => cell_later x.h m4
                repeat (go_big_quiet_step (fail))
                refine wpQuiet_nil ?_
                intro _ hw'
                obtain ⟨xq, hw''⟩ := hw'
                subst hw''
                clear c_g1; replace g1 := g1.below xq.h; have c_g1 := g1.cell; have f_g1 := g1.free; have a_g1 := fun o => (g1.alloc o).cell; have d_g1 := fun o o2 => ((g1.alloc o).alloc o2).cell; have e_g1 := fun o => (g1.alloc o).free
                clear c_m0; replace m0 := cell_later xq.h m0
                clear c_m1; replace m1 := cell_later xq.h m1
                clear c_m2; replace m2 := cell_later xq.h m2
                clear c_m3; replace m3 := cell_later xq.h m3
                clear c_m4; replace m4 := cell_later xq.h m4
                replace hxx := hxx.below xq.h
                replace B := B.trans (xq.h.mono B.size)
                go_wp2
                have HH := Lib.hid (And.intro HR.out (And.intro g1 B))
                clear g1 c_g1 f_g1 a_g1 d_g1 e_g1 B m0 m1 m2 m3 m4 hxx
                go_roundg (nf - (p + 1))
                case measure => omega
                case rel => exact ⟨p + 1, by omega, rfl, by go_num, Lib.hid HH.out⟩
              · have HR := Lib.hid (HJ.out (fun hx => by rw [beq_eq_false_iff_ne] at e3; omega))
                clear HJ
                go_wp2
                refine wp_region_calm (by kernel_rfl) (by kernel_rfl) ?_
                try clear c_g1 f_g1 a_g1 d_g1 e_g1
                have c_g1 := fun x : Fut _ => (g1.below x.h).cell
                have c_m0 := fun x : Fut _ => cell_later x.h m0
                have c_m1 := fun x : Fut _ => cell_later x.h m1
                have c_m2 := fun x : Fut _ => cell_later x.h m2
                have c_m3 := fun x : Fut _ => cell_later x.h m3
                have c_m4 := fun x : Fut _ => cell_later x.h m4
                repeat (go_big_quiet_step (fail))
                refine wpQuiet_nil ?_
                intro _ hw'
                obtain ⟨xq, hw''⟩ := hw'
                subst hw''
                clear c_g1; replace g1 := g1.below xq.h; have c_g1 := g1.cell; have f_g1 := g1.free; have a_g1 := fun o => (g1.alloc o).cell; have d_g1 := fun o o2 => ((g1.alloc o).alloc o2).cell; have e_g1 := fun o => (g1.alloc o).free
                clear c_m0; replace m0 := cell_later xq.h m0
                clear c_m1; replace m1 := cell_later xq.h m1
                clear c_m2; replace m2 := cell_later xq.h m2
                clear c_m3; replace m3 := cell_later xq.h m3
                clear c_m4; replace m4 := cell_later xq.h m4
                replace hxx := hxx.below xq.h
                replace B := B.trans (xq.h.mono B.size)
                go_wp2
                have HH := Lib.hid (And.intro HR.out (And.intro g1 B))
                clear g1 c_g1 f_g1 a_g1 d_g1 e_g1 B m0 m1 m2 m3 m4 hxx
                go_roundg (nf - (p + 1))
                case measure => omega
                case rel => exact ⟨p + 1, by omega, rfl, by go_num, Lib.hid HH.out⟩
              · obtain rfl := HY.out (.inr ⟨k, by have := HNO.out; omega, by rw [bne_iff_ne] at e1; omega, p, by rw [HE.out, ← HNF.out]; exact hltp, by rw [HE.out]; exact HI.out.2 ⟨by rw [beq_iff_eq] at e2; omega, by rw [beq_iff_eq] at e3; omega⟩⟩)
                clear HJ
                go_wp2
                refine wp_region_calm (by kernel_rfl) (by kernel_rfl) ?_
                try clear c_g1 f_g1 a_g1 d_g1 e_g1
                have c_g1 := fun x : Fut _ => (g1.below x.h).cell
                have c_m0 := fun x : Fut _ => cell_later x.h m0
                have c_m1 := fun x : Fut _ => cell_later x.h m1
                have c_m2 := fun x : Fut _ => cell_later x.h m2
                have c_m3 := fun x : Fut _ => cell_later x.h m3
                have c_m4 := fun x : Fut _ => cell_later x.h m4
                repeat (go_big_quiet_step (fail))
                refine wpQuiet_nil ?_
                intro _ hw'
                obtain ⟨xq, hw''⟩ := hw'
                subst hw''
                clear c_g1; replace g1 := g1.below xq.h; have c_g1 := g1.cell; have f_g1 := g1.free; have a_g1 := fun o => (g1.alloc o).cell; have d_g1 := fun o o2 => ((g1.alloc o).alloc o2).cell; have e_g1 := fun o => (g1.alloc o).free
                clear c_m0; replace m0 := cell_later xq.h m0
                clear c_m1; replace m1 := cell_later xq.h m1
                clear c_m2; replace m2 := cell_later xq.h m2
                clear c_m3; replace m3 := cell_later xq.h m3
                clear c_m4; replace m4 := cell_later xq.h m4
                replace hxx := hxx.below xq.h
                replace B := B.trans (xq.h.mono B.size)
                go_wp2
                go_ret
                exact ⟨rfl, B⟩
            · obtain rfl : p = nf := by omega
              have HH := Lib.hid (And.intro hh.out.1 (And.intro g1 B))
              clear hh B
              go_wp2
              clear g1 c_g1 m0 m1 hxx
              go_roundg (NO - (k + 1))
              case measure => omega
              case rel =>
                refine ⟨k + 1, by omega, rfl, by go_num, Lib.hid ⟨fun i hi => ?_, HH.out.2⟩⟩
                by_cases hij : i < k
                · exact HALL.out.1 i hij
                · obtain rfl : i = k := by omega
                  rw [HE.out]
                  rintro ⟨h1, p', h2, h3⟩
                  exact HH.out.1 p' (by rw [HNF.out]; exact h2) ⟨h1, h3⟩
        · obtain rfl : k = NO := by omega
          have HA := Lib.hid hh.out.1; have B := hh.out.2.2
          clear hh
          go_wp2
          go_ret
          refine ⟨ret_bool ?_, B⟩
          rw [HB0.out, eq_comm, decide_eq_false_iff_not]
          rintro (⟨i, h1, h2, h3, h4⟩ | ⟨i, h1, h2, h3⟩)
          · exact HT.out i (by have := HNS.out; omega) ⟨h2, h3, h4⟩
          · exact HA.out i (by have := HNO.out; omega) ⟨h2, h3⟩
end Go.Proofs.Ytgjpohhafmkhcaa
namespace Go.Proofs.Ytgjpohhafmkhcaa
open Go.RowKit L02 L13 L18 L20
/-- the number of a slot is stored -/
theorem OwnS.put1 {w : World} {B E g n c k : Nat} {S : List Sl} {s : Sl} (h : OwnS w B E (.slice (some ⟨g, 0, none⟩) n c) S) (hs : S[k]? = some s) (a : Int) :
    OwnS (w.setCell ⟨g, k * 3 + 2, none⟩ (.int .i64 a)) B E (.slice (some ⟨g, 0, none⟩) n c) (S.set k ⟨s.gen, s.used, a⟩) ∧
      w.grownBy (w.setCell ⟨g, k * 3 + 2, none⟩ (.int .i64 a)) (some g) ∧ B ≤ g ∧ g < w.heap.size ∧ ∀ j, w.frozen? ⟨g, j, none⟩ = false := by
  have hk : k < S.length := (List.getElem?_eq_some_iff.1 hs).1
  have hn : n = S.length := by
    obtain ⟨g', cap, cur, hv, _⟩ := own_form h (by omega)
    injection hv
  subst hn
  have h3 := World.ownsRow.stored h (k * 3 + 2) (.int .i64 a)
  have hl := h.lt g rfl
  have hsame : ∀ i : Nat, i < 3 → ∀ u, (slC s)[i]? = some u → (tabL S).set (k * 3 + i) u = tabL S := by
    intro i hi u hu
    have t0 := tabL_get S k s hs i hi
    rw [hu] at t0
    apply List.ext_getElem?
    intro j
    by_cases hj : j = k * 3 + i
    · subst hj
      rw [List.getElem?_set_self (List.getElem?_eq_some_iff.1 t0).1, t0]
    · rw [List.getElem?_set_ne (Ne.symm hj)]
  have h0 := hsame 0 (by omega) (.int .i64 s.gen) rfl
  have h1 := hsame 1 (by omega) (.bool s.used) rfl
  rw [Nat.add_zero] at h0
  refine ⟨?_, h3.2, hl.1, hl.2, fun j => h.frozenAt j⟩
  unfold OwnS
  rw [← tabL_set S k ⟨s.gen, s.used, a⟩ hk, List.length_set]
  show World.ownsRow _ _ _ _ _ _ ((((tabL S).set (k * 3) (.int .i64 s.gen)).set (k * 3 + 1) (.bool s.used)).set (k * 3 + 2) (.int .i64 a))
  rw [h0, h1]
  exact h3.1
theorem own_ne_bx {w : World} {B e sz n n' p g c : Nat} {xs : List Value} {t : TypeId} {cs : Array Value} (h : w.ownsRow B e sz (.slice (some ⟨g, 0, none⟩) n c) n' xs) (hg : Bx w p t cs) (hne : e ≠ t) : g ≠ p := by
  rintro rfl
  rcases own_not_bx h hg hne with h | h
  · cases h
  · exact h rfl
/-- an index of another kind -/
theorem Rd.ixU {w : World} {sz n : Nat} {v : Value} {xs : List Value} {t e : TypeId} (h : Rd w sz v n xs) (ht : Try.prog.underlying t = some (.slice e)) (hi : (Try.prog.info? e).map (·.size) = some sz) {k : Nat} (hk : k < n) (W : World) :
    (Instr.indexAt t v (.int .u64 (k : Int))).run Try.prog W = .ok (.pointer (some (cellAt v (k * sz)))) W := by
  obtain ⟨i, hi', rfl⟩ := Option.map_eq_some_iff.1 hi
  clear hi
  obtain ⟨A, c, rfl, h1, _, h2, h3, h4⟩ := h
  cases A with
  | none => have := h3 rfl; omega
  | some ad =>
    obtain ⟨b, o, s⟩ := ad
    have := (h4 (by omega) _ rfl).1
    simp at this; subst this
    simp [Instr.indexAt, run_underlying ht, asIntOf, hk, sizeOf, typeInfo, hi', cellAt, Addr.add]
theorem Ints.atU {w : World} {v : Value} {l : List Int} (h : Ints w v l) {k : Nat} (hk : k < l.length) :
    ∃ ad x, (∀ W, (Instr.indexAt 52 v (.int .u64 (k : Int))).run Try.prog W = .ok (.pointer (some ad)) W) ∧ w.cell? ad = some (.int .i64 x) ∧ Hid (l[k]? = some x) :=
  ⟨_, l[k], fun W => Rd.ixU h Try.underlying52 one_int hk W, by rw [Nat.mul_one]; exact Rd.cell h (by simp [hk]; rfl), by unfold Hid; simp [hk]⟩
end Go.Proofs.Ytgjpohhafmkhcaa
namespace Go.Proofs.Ytgjpohhafmkhcaa
open Go.RowKit L02 L13 L18 L20
/-- all blocks from b on, but rows of words, are as they were -/
def Fr (b : Nat) (w w' : World) : Prop := w.heap.size ≤ w'.heap.size ∧ ∀ (g : Nat) (t : TypeId) (cs : Array Value), b ≤ g → t ≠ 29 → Bx w g t cs → Bx w' g t cs
theorem Bx.fr {b g : Nat} {w w' : World} {t : TypeId} {cs : Array Value} (h : Bx w g t cs) (hf : Fr b w w') (hb : b ≤ g) (ht : t ≠ 29) : Bx w' g t cs := hf.2 g t cs hb ht h
/-- rows of bytes stay -/
def KeepB (B : Nat) (w w' : World) : Prop := ∀ (v : Value) (l : List UInt8), OwnB w B 5 v l → OwnB w' B 5 v l
theorem OwnT.atB {w : World} {base : Nat} {v : Value} {L : List (List UInt8)} (h : OwnT w base v L) {k : Nat} {l : List UInt8} (hl : L[k]? = some l) :
    ∃ ad y, (∀ W, (Instr.indexAt 22 v (.int .i64 (k : Int))).run Try.prog W = .ok (.pointer (some ad)) W) ∧ w.cell? ad = some y ∧ OwnB w base 5 y l := by
  obtain ⟨vs, h1, h2, h4⟩ := h
  have hk : k < L.length := (List.getElem?_eq_some_iff.1 hl).1
  have hv : vs[k]? = some vs[k] := List.getElem?_eq_getElem (by omega)
  exact ⟨cellAt v (k * 1), vs[k], fun W => Rd.ixN (Rd.of_own h2) Try.underlying22 one_bytes hk W, by rw [Nat.mul_one]; exact Rd.cell (Rd.of_own h2) hv, h4 k _ _ hv hl⟩
/-- right types, not great -/
structure Rough (m : Mo) : Prop where
  n : m.objs.length ≤ 1000
  o : ∀ o ∈ m.objs, (0 ≤ o.ty ∧ o.ty < m.types.length) ∧ o.fs.length = (ty m.types o).length ∧ o.fs.length ≤ 20
set_option maxRecDepth 100000 in
set_option maxHeartbeats 16000000 in
theorem refs_any (m : Mo) (tv ov sv : Value) (fid : Nat) (first cap : Array Value) (B0 : Nat) (J : Nat → Nat → Mo → World → Prop) (w : World) (hw : B0 ≤ w.heap.size) (hr : Rough m) (hcf : ∀ args W, (callFunc fid args).run Try.prog W = .ok (.enter fid args) W)
    (hst : ∀ n i m' W W', J n i m' W → Below W.heap.size W W' → J n i m' W')
    (hnx : ∀ n m' W, n < m.objs.length → J n (ob m n).fs.length m' W → J (n + 1) 0 m' W)
    (hno : ∀ n i m' W, n < m.objs.length → i < (ob m n).fs.length → ((ty m.types (ob m n)).getD i 0).toNat ≠ 3 → J n i m' W → J n (i + 1) m' W)
    (hcl : ∀ n i m' gf W, n < m.objs.length → i < (ob m n).fs.length → ((ty m.types (ob m n)).getD i 0).toNat = 3 → Like m m' → w.heap.size ≤ W.heap.size → OwnM W B0 67 tv ov sv m' → OwnF W B0 ov m'.objs n gf → J n i m' W →
      Calls Try.prog fid (first ++ (#[.int .i64 n, .pointer (some ⟨gf, i, none⟩)] ++ cap)) W fun e W' => e = .returned (.tuple #[]) ∧ ∃ m'', Like m m'' ∧ OwnM W' B0 67 tv ov sv m'' ∧ OwnF W' B0 ov m''.objs n gf ∧ J n (i + 1) m'' W' ∧ Fr w.heap.size W W' ∧ KeepB B0 W W')
    (m0 : Mo) (hl : Like m m0) (h : OwnM w B0 67 tv ov sv m0) (hj : J 0 0 m0 w) :
    Calls Try.prog 52 #[.agg #[tv, ov, sv], .func (.func fid) first cap] w fun e w' => e = .returned (.tuple #[]) ∧ ∃ m', Like m m' ∧ OwnM w' B0 67 tv ov sv m' ∧ J m.objs.length 0 m' w' := by
  obtain ⟨N, hN⟩ : ∃ N, N = m.objs.length := ⟨_, rfl⟩
  have HST := Lib.hid hst; have HNX := Lib.hid hnx; have HNO := Lib.hid hno; have HCL := Lib.hid hcl; have HR := Lib.hid hr; have HN := Lib.hid hN; have HL0 := Lib.hid hl
  have hN1 : N ≤ 1000 := by rw [hN]; exact hr.n
  clear hst hnx hno hcl hr hl hN
  obtain ⟨tA, tn, tc, rfl⟩ := h.forms.1
  obtain ⟨oA, on, oc, rfl⟩ := h.forms.2.1
  obtain ⟨sA, sn, sc, rfl⟩ := h.forms.2.2
  go_enter Try.func52, Try.ntmps52
  go_upto_region 1 with (fail)
  have b := (Below.refl w.heap.size w).alloc (Nat.le_refl _) (.cells #[.slice tA tn tc, .slice oA on oc, .slice sA sn sc] 26)
  refine wp_gen (fun Wv => Bx Wv w.heap.size 26 #[.slice tA tn tc, .slice oA on oc, .slice sA sn sc] ∧ OwnM Wv B0 67 (.slice tA tn tc) (.slice oA on oc) (.slice sA sn sc) m0 ∧ J 0 0 m0 Wv ∧ w.heap.size < Wv.heap.size) ⟨Bx.at_ (by simp), h.below b, HST.out _ _ _ _ _ hj b, by simp⟩ ?_
  clear b h hj
  rintro wa ⟨g1, om, hj, hz⟩
  have c_g1 := g1.cell
  have lo := om.o.rd.len
  rw [HL0.out.2.1, ← HN.out] at lo
  have HI := Lib.hid (And.intro g1 (And.intro om (And.intro HL0.out (And.intro hj hz))))
  clear g1 om hj HL0
  go_wp2
  clear c_g1 lo
  go_loopg [11] N (fun g i wr => ∃ n : Nat, n ≤ N ∧ g = N - n ∧ i = .int .i64 n ∧ Hid (∃ m', Bx wr w.heap.size 26 #[.slice tA tn tc, .slice oA on oc, .slice sA sn sc] ∧ OwnM wr B0 67 (.slice tA tn tc) (.slice oA on oc) (.slice sA sn sc) m' ∧ Like m m' ∧ J n 0 m' wr ∧ w.heap.size < wr.heap.size))
  case atStart => exact ⟨0, by omega, by omega, rfl, Lib.hid ⟨_, HI.out⟩⟩
  case round =>
    clear HI hz
    obtain ⟨n, hn, rfl, rfl, hh⟩ := hrel
    obtain ⟨m', g1, om, hl, hj, hz⟩ := hh.out
    by_cases hlt : n < N
    · have hnm : n < m.objs.length := by rw [← HN.out]; exact hlt
      obtain ⟨o, ho⟩ : ∃ o, m'.objs[n]? = some o := ⟨_, List.getElem?_eq_getElem (by rw [hl.2.1]; exact hnm)⟩
      have hob : ob m' n = o := ob_at ho
      obtain ⟨oo, hoo⟩ : ∃ o, m.objs[n]? = some o := ⟨_, List.getElem?_eq_getElem hnm⟩
      have hoob : ob m n = oo := ob_at hoo
      have hlk := hl.2.2 n
      rw [hob, hoob] at hlk
      obtain ⟨⟨hq0, hq1⟩, hfl, hf20⟩ := HR.out.o oo (List.mem_of_getElem? hoo)
      obtain ⟨q, hq⟩ := Int.eq_ofNat_of_zero_le hq0
      have hqt : q < m'.types.length := by rw [hl.1]; omega
      obtain ⟨t, ht⟩ : ∃ t, m'.types[q]? = some t := ⟨_, List.getElem?_eq_getElem hqt⟩
      have htt : ty m.types oo = t := by rw [ty, hq, ← hl.1]; simp [List.getD_eq_getElem?_getD, ht]
      have hoq : o.ty = (q : Int) := by rw [hlk.1, hq]
      obtain ⟨nt, hnt⟩ : ∃ nt, nt = t.length := ⟨_, rfl⟩
      have hofl : o.fs.length = nt := by rw [hlk.2, hfl, htt, hnt]
      have hnt20 : nt ≤ 20 := by omega
      have HOF := Lib.hid hofl
      have c_g1 := g1.cell
      obtain ⟨ad, yt, iy, m3, hby⟩ := om.t.atB ht
      have ly := Rd.len (OwnB.rd hby) Try.underlying74
      rw [← hnt] at ly
      by_cases hf : 0 < nt
      · obtain ⟨b, bq, gf, nf, cf, ix, p0, p1, hb, of_, hnf, hix⟩ := om.o.at_ ho (by omega)
        rw [hoq] at p0
        rw [hofl] at hix hnf
        obtain rfl : nt = nf := hnf.symm
        have HNT := Lib.hid hnt; clear hnt hofl
        have HC := Lib.hid (And.intro hl (And.intro hj (And.intro om of_)))
        obtain ⟨wn, hwn⟩ : ∃ W, W = wr := ⟨_, rfl⟩
        subst hwn
        clear hh
        go_upto_region 4 with (fail)
        have b' := (Below.refl wn.heap.size wn).alloc (Nat.le_refl _) (.cells #[.int .i64 (q : Int), .slice (some ⟨gf, 0, none⟩) nt cf] 72)
        refine wp_gen (fun Wv => Bx Wv wn.heap.size 72 #[.int .i64 (q : Int), .slice (some ⟨gf, 0, none⟩) nt cf] ∧ Below wn.heap.size wn Wv ∧ wn.heap.size < Wv.heap.size) ?_ ?_
        · exact ⟨Bx.new wn _ _, b', by simp⟩
        clear b' p0 p1 ix
        rintro wb ⟨g5, b5, hz5⟩
        have HX := Lib.hid (And.intro (g1.below b5) (And.intro g5 (And.intro (OwnM.below HC.out.2.2.1 b5) (And.intro (OwnF.below HC.out.2.2.2 b5) (And.intro HC.out.1 (And.intro (HST.out _ _ _ _ _ HC.out.2.1 b5) (And.intro hz5 (own_below hby b5))))))))
        have c_g1 := (g1.below b5).cell
        have c_g5 := g5.cell
        have m3' := cell_later b5 m3
        clear g1 g5 b5 m3 HC om of_ hj hl hby
        go_wp2
        clear c_g1 c_g5 m3' iy
        go_loopg [23] nt (fun g i wr => ∃ p : Nat, p ≤ nt ∧ g = nt - p ∧ i = .int .i64 p ∧ Hid (∃ m', Bx wr w.heap.size 26 #[.slice tA tn tc, .slice oA on oc, .slice sA sn sc] ∧ Bx wr wn.heap.size 72 #[.int .i64 (q : Int), .slice (some ⟨gf, 0, none⟩) nt cf] ∧ OwnM wr B0 67 (.slice tA tn tc) (.slice oA on oc) (.slice sA sn sc) m' ∧ OwnF wr B0 (.slice oA on oc) m'.objs n gf ∧ Like m m' ∧ J n p m' wr ∧ wn.heap.size < wr.heap.size ∧ OwnB wr B0 5 yt t))
        case atStart => exact ⟨0, by omega, by omega, rfl, Lib.hid ⟨_, HX.out⟩⟩
        case round =>
          clear HX
          obtain ⟨p, hp, rfl, rfl, hh⟩ := hrel
          obtain ⟨m2, g1, g5, om, of_, hl, hj, hz2, hby⟩ := hh.out
          have c_g1 := g1.cell
          have c_g5 := g5.cell
          have ix := hix p
          by_cases hltp : p < nt
          · have ix := hix p (by omega)
            obtain ⟨bd, kk, ib, m4, hkk⟩ := ((OwnB.rd hby).at_ (P := Try.prog) Try.underlying74 one_u8 (k := p) (by rw [← HNT.out]; exact hltp))
            have hpm : p < (ob m n).fs.length := by rw [hoob, ← hlk.2, HOF.out]; exact hltp
            have hkm : (ty m.types (ob m n)).getD p 0 = kk := by rw [hoob, htt]; simp [List.getD_eq_getElem?_getD, hkk.out]
            clear hkk
            by_cases h3 : kk.toNat = 3
            · have k3 : ((kk.toNat : Int) == 3) = true := by rw [beq_iff_eq]; omega
              have HCC := Lib.hid (HCL.out n p m2 gf wr hnm hpm (by rw [hkm]; exact h3) hl (by omega) om of_ hj)
              have HG := Lib.hid (And.intro g1 (And.intro g5 (And.intro hby hz2)))
              clear g1 g5 hby hz2 om of_ hl hj
              go_upto_region 8 with (fail)
              go_wp2_with fail
              refine HCC.out.mono ?_
              rintro e w' ⟨rfl, m3, a1, a2, a3, a4, a5, a6⟩
              obtain ⟨g1, g5, hby, hz2⟩ := HG.out
              have HJ := Lib.hid (And.intro (g1.fr a5 (Nat.le_refl _) (by decide)) (And.intro (g5.fr a5 (by omega) (by decide)) (And.intro a2 (And.intro a3 (And.intro a1 (And.intro a4 (And.intro (Nat.lt_of_lt_of_le hz2 a5.1) (a6 _ _ hby))))))))
              clear a1 a2 a3 a4 a5 a6 g1 g5 hby hz2 HG HCC
              go_wp2
              go_roundg (nt - (p + 1))
              case measure => omega
              case rel => exact ⟨p + 1, by omega, rfl, by go_num, Lib.hid ⟨m3, HJ.out⟩⟩
            · have k3 : ((kk.toNat : Int) == 3) = false := by rw [beq_eq_false_iff_ne]; omega
              have HJ := Lib.hid (HNO.out n p m2 wr hnm hpm (by rw [hkm]; exact h3) hj)
              clear hj
              go_wp2
              go_roundg (nt - (p + 1))
              case measure => omega
              case rel => exact ⟨p + 1, by omega, rfl, by go_num, Lib.hid ⟨m2, g1, g5, om, of_, hl, HJ.out, hz2, hby⟩⟩
          · obtain rfl : p = nt := by omega
            have HJ := Lib.hid (HNX.out n m2 wr hnm (by rw [hoob, ← hlk.2, HOF.out]; exact hj))
            clear hj ix
            go_wp2
            go_roundg (N - (n + 1))
            case measure => omega
            case rel => exact ⟨n + 1, by omega, rfl, by go_num, Lib.hid ⟨m2, g1, om, hl, HJ.out, by omega⟩⟩
      · obtain ⟨bo, bq, x0, o2, ix, p0, p1, ho2, hx0, hob2⟩ := (om.o.rd).at_ (k := n) (by rw [hl.2.1]; exact hnm)
        obtain rfl : o2 = o := by have := ho2.out; rw [ho] at this; injection this with e; exact e.symm
        obtain ⟨xA, xn, xc, rfl⟩ : ∃ A n c, x0 = .slice A n c := by obtain ⟨A, c, e, _⟩ := hx0.out; exact ⟨A, _, c, e⟩
        rw [hoq] at p0
        obtain rfl : nt = 0 := by omega
        clear hx0 ho2 hnt
        have HC := Lib.hid (And.intro hl (And.intro hj om))
        obtain ⟨wn, hwn⟩ : ∃ W, W = wr := ⟨_, rfl⟩
        subst hwn
        clear hh
        go_upto_region 4 with (fail)
        have b' := (Below.refl wn.heap.size wn).alloc (Nat.le_refl _) (.cells #[.int .i64 (q : Int), .slice xA xn xc] 72)
        refine wp_gen (fun Wv => Bx Wv wn.heap.size 72 #[.int .i64 (q : Int), .slice xA xn xc] ∧ Below wn.heap.size wn Wv ∧ wn.heap.size < Wv.heap.size) ?_ ?_
        · exact ⟨Bx.new wn _ _, b', by simp⟩
        clear b' p0 p1 ix
        rintro wb ⟨g5, b5, hz5⟩
        have HX := Lib.hid (And.intro (g1.below b5) (And.intro (OwnM.below HC.out.2.2 b5) (And.intro HC.out.1 (And.intro (HST.out _ _ _ _ _ HC.out.2.1 b5) hz5))))
        have c_g1 := (g1.below b5).cell
        have c_g5 := g5.cell
        have m3' := cell_later b5 m3
        clear g1 g5 b5 m3 HC om hj hl hby
        go_wp2
        clear c_g1 c_g5 m3' iy
        go_loopg [23] 0 (fun g i wr => g = 0 ∧ i = .int .i64 0 ∧ Hid (Bx wr w.heap.size 26 #[.slice tA tn tc, .slice oA on oc, .slice sA sn sc] ∧ OwnM wr B0 67 (.slice tA tn tc) (.slice oA on oc) (.slice sA sn sc) m' ∧ Like m m' ∧ J n 0 m' wr ∧ wn.heap.size < wr.heap.size))
        case atStart => exact ⟨rfl, rfl, HX⟩
        case round =>
          clear HX
          obtain ⟨rfl, rfl, hh⟩ := hrel
          obtain ⟨g1, om, hl, hj, hz2⟩ := hh.out
          have HJ := Lib.hid (HNX.out n m' wr hnm (by rw [hoob, ← hlk.2, HOF.out]; exact hj))
          go_wp2
          go_roundg (N - (n + 1))
          case measure => omega
          case rel => exact ⟨n + 1, by omega, rfl, by go_num, Lib.hid ⟨m', g1, om, hl, HJ.out, by omega⟩⟩
    · obtain rfl : n = N := by omega
      go_wp2
      refine bodyPost_end (results_none rfl _ _ _) rfl ?_
      refine ⟨rfl, m', hl, om, ?_⟩
      rw [← HN.out]; exact hj
end Go.Proofs.Ytgjpohhafmkhcaa
namespace Go.Proofs.Ytgjpohhafmkhcaa
open Go Go.RowKit
section
variable {P : Program} {ops : Array Oper} {w : World}
theorem wpStill_of_quiet {Q : Act → Prop} : ∀ (l : List Oper) (a : Act), wpQuiet P ops (fun W => W = w) Q l a → wpStill P ops w Q l a
  | [], a, h => h
  | o :: l, a, h => by
    unfold wpQuiet at h
    unfold wpStill
    by_cases hw : Region.wanted o (yielded ops a.tmps) = true
    · rw [if_pos hw] at h ⊢
      obtain ⟨v, h1, h2⟩ := h
      have h3 := h1 w rfl
      have h4 := wpStill_of_quiet l _ h2
      unfold Oper.quietAt at h3
      unfold Oper.still
      cases hr : (execOp a.eval o).run P w with
      | ok n w' =>
        rw [hr] at h3
        cases n with
        | value u => obtain ⟨e1, e2⟩ := h3; subst e2; exact ⟨e1, h4⟩
        | skip => obtain ⟨e1, e2⟩ := h3; subst e2; exact ⟨e1, h4⟩
        | enter f args => obtain ⟨e1, e2⟩ := h3; exact ⟨e1, v, e2, h4⟩
        | _ => exact absurd h3 id
      | halt x w' => rw [hr] at h3; exact absurd h3 id
    · rw [if_neg hw] at h ⊢
      exact wpStill_of_quiet l _ h
theorem wp_region_qtail {id : Nat} {Q : Exit → Act → World → Prop} {a : Act} {l : List Oper} (n : Nat) (hm : P.follows .mixedOrders = true) (hB : Region.lexTailB .any l.toArray n = true)
    (h : wpQuiet P l.toArray (fun W => W = w.drew) (fun a' => wpList P l.toArray Q (l.drop n) a' w.drew) (l.take n) a) : (Code.region id l.toArray true).wp P Q a w :=
  wp_region_still_tail n hm hB (wpStill_of_quiet _ _ h)
end
end Go.Proofs.Ytgjpohhafmkhcaa
namespace Go.Proofs.Ytgjpohhafmkhcaa
open Go.RowKit L02 L13 L18 L20
set_option maxRecDepth 100000 in
set_option maxHeartbeats 4000000 in
theorem Free1_any (k own gf i pb po : Nat) (v : UInt64) (b b' : Bool) (hb' : b' = (b || (decide (k ≠ own) && decide (v.toNat = own + 1)))) (ho : own ≤ 1000) (w : World)
    (hv : w.cell? ⟨gf, i, none⟩ = some (.int .u64 v.toNat)) (hf : w.frozen? ⟨gf, i, none⟩ = false) (g1 : Bx w pb 4 #[.bool b]) (g2 : Bx w po 3 #[.int .i64 own]) (n1 : gf ≠ pb) (n2 : po ≠ pb) :
    Calls Try.prog 57 #[.int .i64 k, .pointer (some ⟨gf, i, none⟩), .pointer (some ⟨pb, 0, none⟩), .pointer (some ⟨po, 0, none⟩)] w fun e w' => e = .returned (.tuple #[]) ∧
      ∃ q, w' = if own + 1 < v.toNat then (((w.drew).setCell ⟨pb, 0, none⟩ (.bool b')).drewN q).setCell ⟨gf, i, none⟩ (.int .u64 (v.toNat - 1 : Nat)) else ((w.drew).setCell ⟨pb, 0, none⟩ (.bool b')).drewN q := by
  obtain ⟨vn, hvn⟩ : ∃ n, n = v.toNat := ⟨_, rfl⟩
  have hvl := v.toNat_lt
  rw [← hvn] at hv hb' hvl ⊢
  have c1 := g1.cell; have f1 := g1.free; have c2 := g2.cell
  have hw1 : IntKind.u64.wrap (own : Int) = (own : Int) := by show (own : Int) % 18446744073709551616 = _; omega
  have hw2 : IntKind.u64.wrap ((own : Int) + 1) = (own : Int) + 1 := by show ((own : Int) + 1) % 18446744073709551616 = _; omega
  have HB := Lib.hid hb'
  clear hb' hvn
  obtain ⟨R, hR⟩ : ∃ R : World → Prop, R = fun w' => ∃ q, w' = if own + 1 < vn then (((w.drew).setCell ⟨pb, 0, none⟩ (.bool b')).drewN q).setCell ⟨gf, i, none⟩ (.int .u64 (vn - 1 : Nat)) else ((w.drew).setCell ⟨pb, 0, none⟩ (.bool b')).drewN q := ⟨_, rfl⟩
  have HR := Lib.hid hR
  have HG := Lib.hid (And.intro (show Bx w.drew pb 4 #[.bool b] from g1) (And.intro (show Bx w.drew po 3 #[.int .i64 own] from g2) (And.intro (show w.drew.cell? ⟨gf, i, none⟩ = some (.int .u64 vn) from hv) (show w.drew.frozen? ⟨gf, i, none⟩ = false from hf))))
  have main : Calls Try.prog 57 #[.int .i64 k, .pointer (some ⟨gf, i, none⟩), .pointer (some ⟨pb, 0, none⟩), .pointer (some ⟨po, 0, none⟩)] w fun e w' => e = .returned (.tuple #[]) ∧ R w' := by
    clear hR g1 g2
    have cases : (b = true ∧ b' = true) ∨ (b = false ∧ b' = false ∧ ((k : Int) != (own : Int)) = false) ∨ (b = false ∧ b' = false ∧ ((k : Int) != (own : Int)) = true ∧ ((vn : Int) == (own : Int) + 1) = false) ∨ (b = false ∧ b' = true ∧ ((k : Int) != (own : Int)) = true ∧ ((vn : Int) == (own : Int) + 1) = true) := by
      rw [HB.out]
      cases b
      · refine .inr ?_
        by_cases hk : k = own
        · exact .inl ⟨rfl, by simp [hk], by rw [bne_eq_false_iff_eq]; omega⟩
        · refine .inr ?_
          by_cases h2 : vn = own + 1
          · exact .inr ⟨rfl, by simp [hk, h2], by rw [bne_iff_ne]; omega, by rw [beq_iff_eq]; omega⟩
          · exact .inl ⟨rfl, by simp [h2], by rw [bne_iff_ne]; omega, by rw [beq_eq_false_iff_ne]; omega⟩
      · exact .inl ⟨rfl, by simp⟩
    rcases cases with ⟨rfl, rfl⟩ | ⟨rfl, rfl, hk1⟩ | ⟨rfl, rfl, hk1, hv1⟩ | ⟨rfl, rfl, hk1, hv1⟩
    all_goals
      clear HB
      go_enter Try.func57, Try.ntmps57
      go_upto_region 0 with (fail)
      refine wp_region_qtail 15 (by kernel_rfl) (by kernel_rfl) ?_
      simp only [List.take_succ_cons, List.take_zero, List.drop_succ_cons, List.drop_zero]
      iterate 15 (go_big_quiet_step (fail))
      refine wpQuiet_nil ?_
      clear c1 f1 c2 hv hf
      have c1 := HG.out.1.cell; have f1 := HG.out.1.free
      go_upto_region 1 with (fail)
      refine wp_gen (fun Wv => Wv = (w.drew).setCell ⟨pb, 0, none⟩ (.bool _)) rfl ?_
      intro W hW
      have hv : W.cell? ⟨gf, i, none⟩ = some (.int .u64 vn) := by rw [hW]; exact cell_far (q := ⟨pb, 0, none⟩) HG.out.2.2.1 n1
      have hf : W.frozen? ⟨gf, i, none⟩ = false := by rw [hW, World.frozen?_setCell]; exact HG.out.2.2.2
      have c2 : ∀ i : Nat, W.cell? ⟨po, i, none⟩ = #[Value.int .i64 (own : Int)][i]? := fun i => by rw [hW]; exact (HG.out.2.1.far (p := ⟨pb, 0, none⟩) n2 _).cell i
      have HW := Lib.hid hW
      clear hW HG c1 f1
      try clear hk1 hv1
      try clear hk1
      by_cases hlt : own + 1 < vn
      · have hd : decide ((own : Int) + 1 < (vn : Int)) = true := by rw [decide_eq_true_iff]; omega
        have hw3 : IntKind.u64.wrap ((vn : Int) - 1) = (vn : Int) - 1 := by show ((vn : Int) - 1) % 18446744073709551616 = _; omega
        go_big_quiet (fail)
        go_wp2
        refine bodyPost_end (results_none rfl _ _ _) rfl ⟨rfl, ?_⟩
        rw [HR.out]
        refine ⟨nq, ?_⟩
        rw [if_pos hlt, ← HW.out]
        congr 2; omega
      · have hd : decide ((own : Int) + 1 < (vn : Int)) = false := by rw [decide_eq_false_iff_not]; omega
        go_big_quiet (fail)
        go_wp2
        refine bodyPost_end (results_none rfl _ _ _) rfl ⟨rfl, ?_⟩
        rw [HR.out]
        refine ⟨nq, ?_⟩
        rw [if_neg hlt, ← HW.out]
  subst hR; exact main
set_option maxRecDepth 100000 in
set_option maxHeartbeats 4000000 in
theorem Canon1_any (k gf i pc pf : Nat) (v : UInt64) (tv ov sv nv rv : Value) (ks : List Int) (x : Int) (w : World) (hx : 0 < v.toNat → ks[v.toNat - 1]? = some x) (hx0 : 0 ≤ x ∧ x ≤ 1000) (hl : v.toNat ≤ 1000)
    (hv : w.cell? ⟨gf, i, none⟩ = some (.int .u64 v.toNat)) (hf : w.frozen? ⟨gf, i, none⟩ = false) (g1 : Bx w pc 93 #[.pointer (some ⟨pf, 0, none⟩)]) (g2 : Bx w pf 95 #[tv, ov, sv, nv, rv]) (hn : Ints w nv ks) :
    Calls Try.prog 53 #[.int .i64 k, .pointer (some ⟨gf, i, none⟩), .pointer (some ⟨pc, 0, none⟩)] w fun e w' => e = .returned (.tuple #[]) ∧
      w' = if 0 < v.toNat then (w.drew).setCell ⟨gf, i, none⟩ (.int .u64 x) else w := by
  obtain ⟨vn, hvn⟩ : ∃ n, n = v.toNat := ⟨_, rfl⟩
  rw [← hvn] at hv hx hl ⊢
  have c1 := g1.cell; have c2 := g2.cell
  have hw3 : IntKind.u64.wrap x = x := by show x % 18446744073709551616 = _; omega
  obtain ⟨R, hR⟩ : ∃ R : World → Prop, R = fun w' => w' = if 0 < vn then (w.drew).setCell ⟨gf, i, none⟩ (.int .u64 x) else w := ⟨_, rfl⟩
  have HR := Lib.hid hR; have HN := Lib.hid hn; have HX := Lib.hid hx
  have main : Calls Try.prog 53 #[.int .i64 k, .pointer (some ⟨gf, i, none⟩), .pointer (some ⟨pc, 0, none⟩)] w fun e w' => e = .returned (.tuple #[]) ∧ R w' := by
    clear hR g1 g2 hn hvn hx
    by_cases h0 : 0 < vn
    · obtain ⟨q, rfl⟩ : ∃ q, vn = q + 1 := ⟨vn - 1, by omega⟩
      have hxx := HX.out h0
      rw [Nat.add_sub_cancel] at hxx
      obtain ⟨nd, x2, ind, m6, hx2⟩ := HN.out.atU (k := q) (List.getElem?_eq_some_iff.1 hxx).1
      obtain rfl : x2 = x := by have := hx2.out; rw [hxx] at this; injection this with e; exact e.symm
      have hv' : w.cell? ⟨gf, i, none⟩ = some (.int .u64 ((q : Int) + 1)) := by rw [hv]; rfl
      have hne : ((q : Int) + 1 != 0) = true := by rw [bne_iff_ne]; omega
      have z2 : IntKind.u64.wrap (q : Int) = (q : Int) := by show (q : Int) % 18446744073709551616 = _; omega
      clear hv h0 hx2 hxx
      go_enter Try.func53, Try.ntmps53
      go_upto_region 1 with (fail)
      refine wp_region_qtail 13 (by kernel_rfl) (by kernel_rfl) ?_
      simp only [List.take_succ_cons, List.take_zero, List.drop_succ_cons, List.drop_zero]
      iterate 13 (go_big_quiet_step (fail))
      refine wpQuiet_nil ?_
      have hv2 : w.drew.cell? ⟨gf, i, none⟩ = some (.int .u64 ((q : Int) + 1)) := hv'
      have hf2 : w.drew.frozen? ⟨gf, i, none⟩ = false := hf
      clear c1 c2 m6 hv' hf
      go_wp2
      refine bodyPost_end (results_none rfl _ _ _) rfl ⟨rfl, ?_⟩
      rw [HR.out]
      show _ = if 0 < q + 1 then _ else _
      rw [if_pos (by omega)]
      rfl
    · obtain rfl : vn = 0 := by omega
      have hv' : w.cell? ⟨gf, i, none⟩ = some (.int .u64 0) := by rw [hv]; rfl
      clear hv
      go_enter Try.func53, Try.ntmps53
      go_wp2
      refine bodyPost_end (results_none rfl _ _ _) rfl ⟨rfl, ?_⟩
      rw [HR.out]
      rfl
  subst hR; exact main
end Go.Proofs.Ytgjpohhafmkhcaa
namespace Go.Proofs.Ytgjpohhafmkhcaa
open Go.RowKit L02 L13 L18 L20
theorem obC_erase : ∀ {L : List Ob} {vs : List Value} {i : Nat}, vs.length = L.length → obC (L.eraseIdx i) (vs.eraseIdx i) = (obC L vs).take (i * 2) ++ (obC L vs).drop ((i + 1) * 2)
  | [], [], i, _ => by simp [obC]
  | [], _ :: _, _, h => by simp at h
  | _ :: _, [], _, h => by simp at h
  | o :: L, x :: vs, 0, h => by simp [obC]
  | o :: L, x :: vs, i + 1, h => by
    rw [List.eraseIdx_cons_succ, List.eraseIdx_cons_succ, obC, obC_erase (by simpa using h), obC]
    rw [show (i + 1) * 2 = i * 2 + 1 + 1 by omega, show (i + 1 + 1) * 2 = (i * 2 + 1 + 1) + 1 + 1 by omega]
    simp
theorem run_clear_obj (w : World) (ty : TypeId) (b o c : Nat) (hc : ∀ j, j < 2 → (w.cell? ⟨b, o + j, none⟩).isSome = true) (hf : ∀ j, j < 2 → w.frozen? ⟨b, o + j, none⟩ = false) :
    (Builtin.clear_ #[23] ty #[.slice (some ⟨b, o, none⟩) 1 c]).run Try.prog w = .ok (.tuple #[]) (w.setCells b o [.int .i64 0, .slice none 0 0]) := by
  have hst := run_storeCells_cells (P := Try.prog) b o [.int .i64 0, .slice none 0 0] 0 w (by simpa using hc) (by simpa using hf) (by simp [Value.oneCell'])
  simp only [Nat.add_zero] at hst
  obtain ⟨i, hi1, hi2, hi3, hi4⟩ := info3 info_obj
  have hz : (zeroValue 72).run Try.prog w = .ok (.agg #[.int .i64 0, .slice none 0 0]) w := by
    simp [zeroValue, typeInfo, hi1, hi2, go_sem]
  have hzc : (Builtin.zeroCells (Value.agg #[.int .i64 0, .slice none 0 0]).cells 1).toList = [.int .i64 0, .slice none 0 0] := by kernel_rfl
  simp [Builtin.clear_, run_underlying Try.underlying23, hz, hzc, hst]
section
variable {P : Program} {ops : Array Oper} {rest : List Oper} {o : Oper} {a : Act} {Q : Exit → Act → World → Prop} {w : World}
/-- append where there is room -/
theorem wpList_appendRoom (hgd : Region.wanted o (yielded ops a.tmps) = true) {s x : Operand} {t e : TypeId} (ho : o.op = .call { callee := .builtin .append, args := #[s, x], argTypes := #[t, t] }) (ht : P.underlying t = some (.slice e)) {size : Nat} (hi : (P.info? e).map (·.size) = some size)
    {b off n cap : Nat} (hs : a.eval s = .slice (some ⟨b, off, none⟩) n cap) {ad : Addr} {m c : Nat} (news : List Value) (hx : a.eval x = .slice (some ad) m c) (hn : news.length = m * size) (hc : ∀ j u, news[j]? = some u → w.cell? (ad.add j) = some u) (h1 : ∀ u ∈ news, u.oneCell' = true)
    (hroom : n + m ≤ cap) (hspare : ∀ j, j < news.length → (w.cell? ⟨b, off + n * size + j, none⟩).isSome = true ∧ w.frozen? ⟨b, off + n * size + j, none⟩ = false)
    (h : wpList P ops Q rest (a.put o.dst (.slice (some ⟨b, off, none⟩) (n + m) cap)) (w.setCells b (off + n * size) news)) : wpList P ops Q (o :: rest) a w := by
  obtain ⟨i, hi', rfl⟩ := Option.map_eq_some_iff.1 hi
  have hrun := run_append_room_cells (P := P) w t o.type e i ht hi' b off n cap ad m c news hn hc h1 hroom (fun j hj => (hspare j hj).1) (fun j hj => (hspare j hj).2)
  refine wpList_wanted hgd fun K hK => ?_
  unfold Oper.wp
  simp [execOp, ho, resolve, invoke, builtin, hs, hx, hrun, Result.andThen]
  exact hK _ _ h
end
theorem setCells_size (g : Nat) : ∀ (l : List Value) (o : Nat) (w : World), (w.setCells g o l).heap.size = w.heap.size
  | [], _, _ => rfl
  | v :: r, o, w => by rw [World.setCells, setCells_size g r]; simp [World.setCell]
theorem setCells_os (g : Nat) : ∀ (l : List Value) (o : Nat) (w : World), (w.setCells g o l).os = w.os ∧ (w.setCells g o l).tape = w.tape ∧ (w.setCells g o l).output = w.output
  | [], _, _ => ⟨rfl, rfl, rfl⟩
  | v :: r, o, w => by rw [World.setCells]; exact setCells_os g r (o + 1) _
theorem setCells_block (g : Nat) {k : Nat} (hk : k ≠ g) : ∀ (l : List Value) (o : Nat) (w : World), (w.setCells g o l).heap[k]? = w.heap[k]?
  | [], _, _ => rfl
  | v :: r, o, w => by rw [World.setCells, setCells_block g hk r]; exact Below.heap_setCell w ⟨g, o, none⟩ v k hk
theorem setCells_grown (g o : Nat) (l : List Value) (w : World) : w.grownBy (w.setCells g o l) (some g) :=
  ⟨(setCells_os g l o w).1, (setCells_os g l o w).2.1, (setCells_os g l o w).2.2, by rw [setCells_size]; exact Nat.le_refl _, fun k hk hne => setCells_block g (by intro e; exact hne (by rw [e])) l o w⟩
set_option maxRecDepth 100000 in
set_option maxHeartbeats 4000000 in
theorem Delete_any (g n cap i j B : Nat) (xs : List Value) (hj : j = i + 1) (hi : i < n) (hn : n ≤ 1000) (w : World) (h : w.ownsRow B 72 2 (.slice (some ⟨g, 0, none⟩) n cap) n xs) (h1 : ∀ u ∈ xs, u.oneCell' = true) :
    Calls Try.prog 58 #[.slice (some ⟨g, 0, none⟩) n cap, .int .i64 i, .int .i64 j] w fun e w' => e = .returned (.slice (some ⟨g, 0, none⟩) (n - 1 : Nat) cap) ∧
      w'.ownsRow B 72 2 (.slice (some ⟨g, 0, none⟩) (n - 1) cap) (n - 1) (xs.take (i * 2) ++ xs.drop ((i + 1) * 2)) ∧ w.grownBy w' (some g) := by
  obtain ⟨g', cap', cur, hv, hB, hg, hnc, hcm, hcs, htk⟩ := own_form h (by omega)
  injection hv with e1 e2 e3; injection e1 with e1; injection e1 with e1; subst e1; subst e3
  have hxl := h.1
  obtain ⟨news, hnews⟩ : ∃ l, l = xs.drop ((i + 1) * 2) := ⟨_, rfl⟩
  have hnl : news.length = (n - j) * 2 := by rw [hnews, List.length_drop, hxl]; omega
  have hcell : ∀ (k : Nat) u, xs[k]? = some u → w.cell? ⟨g, k, none⟩ = some u := fun k u hu => by
    rw [blk_cell hg]
    rw [← htk, List.getElem?_take] at hu
    split at hu
    · simpa using hu
    · cases hu
  obtain ⟨A, hA, hsrc⟩ : ∃ A : Addr, (if cap = j then some (⟨g, 0, none⟩ : Addr) else some ⟨g, j * 2, none⟩) = some A ∧ ∀ t u, news[t]? = some u → w.drew.cell? (A.add t) = some u := by
    by_cases hc : cap = j
    · refine ⟨⟨g, 0, none⟩, by simp [hc], fun t u hu => ?_⟩
      have h0 : news.length = 0 := by rw [hnl]; omega
      rw [List.length_eq_zero_iff.1 h0] at hu
      simp at hu
    · refine ⟨⟨g, j * 2, none⟩, by simp [hc], fun t u hu => ?_⟩
      rw [hnews, List.getElem?_drop] at hu
      rw [Addr.add_lit]
      have := hcell _ u hu
      rw [hj]; exact this
  have hone : ∀ u ∈ news, u.oneCell' = true := fun u hu => h1 u (by rw [hnews] at hu; exact List.mem_of_mem_drop hu)
  have hspare : ∀ t, t < news.length → (w.drew.cell? ⟨g, 0 + i * 2 + t, none⟩).isSome = true ∧ w.drew.frozen? ⟨g, 0 + i * 2 + t, none⟩ = false := fun t ht => by
    refine ⟨?_, blk_free (w := w.drew) hg _⟩
    have := blk_cell (w := w.drew) hg (0 + i * 2 + t)
    rw [this, Array.getElem?_eq_getElem (by rw [hcs, hnl] at *; omega)]; rfl
  obtain ⟨W1, hW1⟩ : ∃ W, W = w.drew.setCells g (0 + i * 2) news := ⟨_, rfl⟩
  have hg1 : Bx W1 g 72 (putL cur (0 + i * 2) news) := by rw [hW1]; exact Bx.setCells news (0 + i * 2) (show Bx w.drew g _ cur from hg)
  have hsz1 : (putL cur (0 + i * 2) news).size = cap * 2 := by rw [putL_size]; exact hcs
  have hcl := run_clear_obj W1 0 g ((n - 1) * 2) (cap - (n - 1)) (fun k hk => by rw [hg1.cell, Array.getElem?_eq_getElem (by rw [hsz1]; omega)]; rfl) (fun k hk => hg1.free _)
  obtain ⟨W2, hW2⟩ : ∃ W, W = W1.setCells g ((n - 1) * 2) [.int .i64 0, .slice none 0 0] := ⟨_, rfl⟩
  rw [← hW2] at hcl
  have hg2 : Bx W2 g 72 (putL (putL cur (0 + i * 2) news) ((n - 1) * 2) [.int .i64 0, .slice none 0 0]) := by rw [hW2]; exact hg1.setCells _ _
  have HFIN := Lib.hid (show W2.ownsRow B 72 2 (.slice (some ⟨g, 0, none⟩) (n - 1) cap) (n - 1) (xs.take (i * 2) ++ xs.drop ((i + 1) * 2)) ∧ w.grownBy W2 (some g) from by
    refine ⟨⟨by rw [List.length_append, List.length_take, List.length_drop, hxl]; omega, .inr ⟨g, cap, _, rfl, hB, hg2, by omega, hcm, by rw [putL_size]; exact hsz1, ?_⟩⟩, ?_⟩
    · apply List.ext_getElem?
      intro k
      rw [List.getElem?_take]
      split
      · rename_i hk
        rw [Array.getElem?_toList, putL_get _ _ _ _ (by rw [hsz1]; simp; omega), if_neg (by omega), putL_get _ _ _ _ (by rw [hnl, hcs]; omega)]
        by_cases hki : k < i * 2
        · rw [if_neg (by omega), List.getElem?_append_left (by rw [List.length_take, hxl]; omega), List.getElem?_take, if_pos hki, ← htk, List.getElem?_take, if_pos (by omega), Array.getElem?_toList]
        · rw [if_pos (by rw [hnl]; omega), List.getElem?_append_right (by rw [List.length_take, hxl]; omega), hnews, List.length_take, hxl]
          congr 1; omega
      · rename_i hk
        rw [List.getElem?_eq_none (by rw [List.length_append, List.length_take, List.length_drop, hxl]; omega)]
    · have k1 := setCells_grown g (0 + i * 2) news w.drew
      have k2 := setCells_grown g ((n - 1) * 2) [.int .i64 0, .slice none 0 0] W1
      rw [← hW1] at k1; rw [← hW2] at k2
      exact ⟨k2.os.trans k1.os, k2.tape.trans k1.tape, k2.output.trans k1.output, Nat.le_trans k1.size k2.size, fun k hk hne => (k2.block k (Nat.lt_of_lt_of_le hk k1.size) hne).trans (k1.block k hk hne)⟩)
  have HA := Lib.hid (And.intro hA (And.intro hsrc (And.intro hone (And.intro hspare (And.intro hnl (And.intro hW1 hj))))))
  have hb1 : i ≤ cap := by omega
  have hb2 : j ≤ cap := by omega
  have hb3 : i ≤ j := by omega
  have hb4 : j ≤ n := by omega
  have hne : ((i : Int) == (j : Int)) = false := by rw [beq_eq_false_iff_ne]; omega
  clear hW2 hg2 hW1 hg1 hsz1 hspare hone hsrc hcell hnl hnews htk hcs hcm hg hB h hxl h1 hj
  go_enter Try.func58, Try.ntmps58
  go_upto_region 5 with (fail)
  refine wp_region_qtail 6 (by kernel_rfl) (by kernel_rfl) ?_
  simp only [List.take_succ_cons, List.take_zero, List.drop_succ_cons, List.drop_zero]
  iterate 6 (go_big_quiet_step (fail))
  refine wpQuiet_nil ?_
  refine wpList_appendRoom (by rfl) (s := .tmp 22) (x := .tmp 25) rfl Try.underlying23 size_obj (b := g) (off := 0) (n := i) (cap := cap) (by rfl) (ad := A) (m := n - j) (c := cap - j) news (by rw [← HA.out.1]; rfl) HA.out.2.2.2.2.1 HA.out.2.1 HA.out.2.2.1 (by omega) HA.out.2.2.2.1 ?_
  rw [← HA.out.2.2.2.2.2.1]
  have hij : i + (n - j) = n - 1 := by have := HA.out.2.2.2.2.2.2; omega
  rw [hij]
  simp only [Act.put, List.setIfInBounds_toArray, List.set_cons_zero, List.set_cons_succ]
  obtain ⟨n1, hn1⟩ : ∃ n1, n1 = n - 1 := ⟨_, rfl⟩
  rw [← hn1] at hcl ⊢
  have hc1 : ¬ cap = n1 := by omega
  have hc2 : n - n1 = 1 := by omega
  have hc3 : n1 ≤ n := by omega
  have hc4 : n ≤ cap := hnc
  have HN := Lib.hid hn1
  clear hij hn1 hne hb1 hb2 hb3 hb4 hi
  go_wp2
  go_ret
  rw [← HN.out] at HFIN ⊢
  exact ⟨rfl, HFIN.out⟩
/-- an object is taken away -/
theorem OwnO.erase {w : World} {B g n cap : Nat} {L : List Ob} (h : OwnO w B (.slice (some ⟨g, 0, none⟩) n cap) L) {i : Nat} (hi : i < L.length) (hn : L.length ≤ 1000) :
    n = L.length ∧ ∃ xs, w.ownsRow B 72 2 (.slice (some ⟨g, 0, none⟩) n cap) n xs ∧ (∀ u ∈ xs, u.oneCell' = true) ∧ ∀ W, w.grownBy W (some g) → W.ownsRow B 72 2 (.slice (some ⟨g, 0, none⟩) (n - 1) cap) (n - 1) (xs.take (i * 2) ++ xs.drop ((i + 1) * 2)) → OwnO W B (.slice (some ⟨g, 0, none⟩) (n - 1) cap) (L.eraseIdx i) := by
  obtain ⟨vs, h1, h2, h4, h5⟩ := h
  obtain ⟨g', cap', cur, hv, _⟩ := own_form h2 (by omega)
  injection hv with e1 e2 e3
  subst e2
  refine ⟨rfl, _, h2, ?_, fun W hg ho => ⟨vs.eraseIdx i, ?_, ?_, ?_, ?_⟩⟩
  · intro u hu
    have : ∀ (L : List Ob) (vs : List Value), (∀ x ∈ vs, x.oneCell' = true) → ∀ u ∈ obC L vs, u.oneCell' = true := by
      intro L
      induction L with
      | nil => intro vs _ u hu; simp [obC] at hu
      | cons o L ih =>
        intro vs hvs u hu
        cases vs with
        | nil => simp [obC] at hu
        | cons x vs =>
          rw [obC] at hu
          rcases List.mem_cons.1 hu with h | h
          · rw [h]; rfl
          · rcases List.mem_cons.1 h with h | h
            · rw [h]; exact hvs x List.mem_cons_self
            · exact ih vs (fun y hy => hvs y (List.mem_cons_of_mem _ hy)) u h
    refine this L vs (fun x hx => ?_) u hu
    obtain ⟨k, hk⟩ := List.mem_iff_getElem?.1 hx
    have hkl : k < L.length := by rw [← h1]; exact (List.getElem?_eq_some_iff.1 hk).1
    exact (h4 k x _ hk (List.getElem?_eq_getElem hkl)).rd.oneCell
  · rw [List.length_eraseIdx_of_lt (by omega), List.length_eraseIdx_of_lt hi, h1]
  · rw [List.length_eraseIdx_of_lt hi, obC_erase h1]; exact ho
  · intro k x o hx ho2
    rw [List.getElem?_eraseIdx] at hx ho2
    split at hx
    · rename_i hk
      rw [if_pos hk] at ho2
      have := h4 k x o hx ho2
      exact World.ownsRow.kept this hg (own_unlike this h2 (by decide))
    · rename_i hk
      rw [if_neg hk] at ho2
      have := h4 _ x o hx ho2
      exact World.ownsRow.kept this hg (own_unlike this h2 (by decide))
  · intro a b x y hab hx hy
    rw [List.getElem?_eraseIdx] at hx hy
    split at hx <;> split at hy <;> exact h5 _ _ x y (by omega) hx hy
end Go.Proofs.Ytgjpohhafmkhcaa
namespace Go.Proofs.Ytgjpohhafmkhcaa
open Go.RowKit L02 L13 L18 L20
theorem OwnF.ne_bx {w : World} {base n gf p : Nat} {v : Value} {L : List Ob} {t : TypeId} {cs : Array Value} (h : OwnF w base v L n gf) (ho : n < L.length) (hg : Bx w p t cs) (hne : 29 ≠ t) : gf ≠ p := by
  obtain ⟨vs, nf, cf, h1, h2, h4, h5, h6⟩ := h
  exact own_ne_bx (h4 n _ _ h6 (List.getElem?_eq_getElem ho)) hg hne
theorem rough_chk {m : Mo} (h : chk m = 0) (S : List Sl) : Rough ⟨m.types, m.objs, S⟩ := by
  obtain ⟨h1, h2, h3⟩ := chk_ok h
  refine ⟨by show m.objs.length ≤ 1000; omega, fun o ho => ⟨(h3.2.2.1 o ho).1, (h3.2.2.1 o ho).2.1, ?_⟩⟩
  exact (small_chk h).2.2.2.2 o ho
theorem low_cases (n : Nat) (s : Sl) : (s.used = false ∨ (s.used = true ∧ (s.at_ == (n : Int)) = true ∧ decide ((n : Int) < s.at_) = false) ∨ (s.used = true ∧ (s.at_ == (n : Int)) = false ∧ decide ((n : Int) < s.at_) = false)) ∨ (s.used = true ∧ (s.at_ == (n : Int)) = false ∧ decide ((n : Int) < s.at_) = true) := by
  cases hu : s.used
  · exact .inl (.inl rfl)
  · by_cases h1 : s.at_ = n
    · exact .inl (.inr (.inl ⟨rfl, by rw [beq_iff_eq]; exact h1, by rw [decide_eq_false_iff_not]; omega⟩))
    · by_cases h2 : (n : Int) < s.at_
      · exact .inr ⟨rfl, by rw [beq_eq_false_iff_ne]; exact h1, by rw [decide_eq_true_iff]; exact h2⟩
      · exact .inl (.inr (.inr ⟨rfl, by rw [beq_eq_false_iff_ne]; exact h1, by rw [decide_eq_false_iff_not]; exact h2⟩))
theorem low_same {n : Nat} {s : Sl} (h : s.used = false ∨ decide ((n : Int) < s.at_) = false) : lowS n s = s := by
  rw [lowS]
  split
  · rename_i hu
    rcases h with h | h
    · rw [h] at hu; cases hu
    · rw [decide_eq_false_iff_not] at h
      rw [lowA, if_neg h, ← hu]
  · rfl
theorem low_less {n : Nat} {s : Sl} (hu : s.used = true) (h : decide ((n : Int) < s.at_) = true) : lowS n s = ⟨s.gen, s.used, s.at_ - 1⟩ := by
  rw [lowS, if_pos hu, lowA, if_pos (by rw [decide_eq_true_iff] at h; exact h), hu]
set_option maxRecDepth 100000 in
set_option maxHeartbeats 4000000 in
/-- one reference, while an object is freed -/
theorem free_step {m m2 m' : Mo} {S1 : List Sl} {w wr W : World} {n i n' gf b1 p6 pb z : Nat} {t o s : Value} {r3c r4c : Array Value} {b : Bool} {X : Prop} (hm2 : m2 = ⟨m.types, m.objs, S1.map (lowS n')⟩) (hn : n < m2.objs.length) (hi : i < (ob m2 n).fs.length) (hk3 : ((ty m2.types (ob m2 n)).getD i 0).toNat = 3) (hn1 : n' ≤ 1000) (hz : z ≤ pb)
    (omW : OwnM W b1 67 t o s m') (ofW : OwnF W b1 o m'.objs n gf) (a1 : m' = mapP (lowV n') m2 n i) (a2 : b = true ↔ X ∨ refTo m n' n i) (a3 : Bx W z 26 r3c) (a4 : Bx W p6 26 r4c) (a5 : Bx W (p6 + 1) 3 #[.int .i64 n']) (a6 : Bx W pb 4 #[.bool b]) (a7 : Below w.heap.size w W)
    (hpbw : w.heap.size ≤ pb) (hp7 : p6 + 1 < pb) (hpz : pb < wr.heap.size) (hb1 : w.heap.size ≤ b1) :
    Calls Try.prog 57 (#[] ++ (#[.int .i64 n, .pointer (some ⟨gf, i, none⟩)] ++ #[.pointer (some ⟨pb, 0, none⟩), .pointer (some ⟨p6 + 1, 0, none⟩)])) W fun e W' => e = .returned (.tuple #[]) ∧ ∃ m'', Like m2 m'' ∧ OwnM W' b1 67 t o s m'' ∧ OwnF W' b1 o m''.objs n gf ∧
      (m'' = mapP (lowV n') m2 n (i + 1) ∧ ∃ b : Bool, (b = true ↔ X ∨ refTo m n' n (i + 1)) ∧ Bx W' z 26 r3c ∧ Bx W' p6 26 r4c ∧ Bx W' (p6 + 1) 3 #[.int .i64 n'] ∧ Bx W' pb 4 #[.bool b] ∧ Below w.heap.size w W') ∧ Fr wr.heap.size W W' ∧ KeepB b1 W W' := by
  obtain ⟨o', ho', hfi⟩ := mapP_fld (φ := lowV n') (m := m2) hn hi
  rw [← a1] at ho'
  obtain ⟨mc, mf, gB, gL⟩ := ofW.cell ho' hfi
  have hnl : n < m'.objs.length := (List.getElem?_eq_some_iff.1 ho').1
  have ne1 : gf ≠ pb := ofW.ne_bx hnl a6 (by decide)
  have ne3 : gf ≠ z := ofW.ne_bx hnl a3 (by decide)
  have ne4 : gf ≠ p6 := ofW.ne_bx hnl a4 (by decide)
  have ne5 : gf ≠ p6 + 1 := ofW.ne_bx hnl a5 (by decide)
  have hzp : z ≠ pb := by
    rintro rfl
    have e1 := a3; have e2 := a6
    unfold Bx at e1 e2; rw [e1] at e2; injection e2 with e2; injection e2 with _ e3; exact absurd e3 (by decide)
  refine (Free1_any n n' gf i pb (p6 + 1) ((ob m2 n).fs.getD i 0) b _ rfl hn1 W mc mf a6 a5 ne1 (by omega)).mono ?_
  rintro e w' ⟨rfl, q, hw'⟩
  refine ⟨rfl, ?_⟩
  obtain ⟨b', hb'⟩ : ∃ b', b' = (b || (decide (n ≠ n') && decide (((ob m2 n).fs.getD i 0).toNat = n' + 1))) := ⟨_, rfl⟩
  rw [← hb'] at hw'
  obtain ⟨W1, hW1⟩ : ∃ W1, W1 = ((W.drew).setCell ⟨pb, 0, none⟩ (.bool b')).drewN q := ⟨_, rfl⟩
  rw [← hW1] at hw'
  have hRT : b' = true ↔ X ∨ refTo m n' n (i + 1) := by
    have e0 : refTo m2 n' n (i + 1) ↔ refTo m n' n (i + 1) := by subst hm2; exact Iff.rfl
    have e1 : refTo m2 n' n i ↔ refTo m n' n i := by subst hm2; exact Iff.rfl
    rw [← e0, refTo_step hn hi, e1, ← or_assoc, ← a2, hb', isRef]
    simp only [Bool.or_eq_true, Bool.and_eq_true, decide_eq_true_iff]
    exact or_congr Iff.rfl ⟨fun h => ⟨h.1, hk3, h.2⟩, fun h => ⟨h.1, h.2.2⟩⟩
  have oM1 : OwnM W1 b1 67 t o s m' := by
    rw [hW1]
    exact ⟨OwnT.set (w := W.drew) omW.t a6 (by decide) (by decide), OwnO.set (w := W.drew) omW.o a6 (by decide) (by decide), own_set (w := W.drew) omW.s a6 (by decide)⟩
  have oF1 : OwnF W1 b1 o m'.objs n gf := by rw [hW1]; exact OwnF.set (w := W.drew) ofW a6 (by decide) (by decide)
  have x3 : Bx W1 z 26 r3c := by rw [hW1]; exact Bx.far (w := W.drew) a3 (p := ⟨pb, 0, none⟩) hzp _
  have x4 : Bx W1 p6 26 r4c := by rw [hW1]; exact Bx.far (w := W.drew) a4 (p := ⟨pb, 0, none⟩) (by show _ ≠ pb; omega) _
  have x5 : Bx W1 (p6 + 1) 3 #[.int .i64 n'] := by rw [hW1]; exact Bx.far (w := W.drew) a5 (p := ⟨pb, 0, none⟩) (by show _ ≠ pb; omega) _
  have x9 : Bx W1 pb 4 #[.bool b'] := by
    rw [hW1]
    have k : Bx (W.drew.setCell ⟨pb, 0, none⟩ (.bool b')) pb 4 #[.bool b'] := by
      have := Bx.set (w := W.drew) (i := 0) a6 (.bool b')
      simpa using this
    exact k
  have xB : Below w.heap.size w W1 := by rw [hW1]; exact (below_drewN (((a7.drew).setCell (p := ⟨pb, 0, none⟩) hpbw _)) q)
  have hs1 : W1.heap.size = W.heap.size := by rw [hW1]; show (W.setCell ⟨pb, 0, none⟩ (.bool b')).heap.size = _; simp [World.setCell]
  have fr1 : Fr wr.heap.size W W1 := ⟨by rw [hs1]; exact Nat.le_refl _, fun g t' cs hg _ hx => by rw [hW1]; exact Bx.far (w := W.drew) hx (p := ⟨pb, 0, none⟩) (by show _ ≠ pb; omega) _⟩
  have kb1 : KeepB b1 W W1 := fun v l hv => by rw [hW1]; exact own_set (w := W.drew) hv a6 (by decide)
  have hlv : lowV n' ((ty m2.types (ob m2 n)).getD i 0) ((ob m2 n).fs.getD i 0) = if n' + 1 < ((ob m2 n).fs.getD i 0).toNat then (ob m2 n).fs.getD i 0 - 1 else (ob m2 n).fs.getD i 0 := by
    rw [lowV]
    by_cases h : n' + 1 < ((ob m2 n).fs.getD i 0).toNat
    · rw [if_pos ⟨hk3, h⟩, if_pos h]
    · rw [if_neg (fun hh => h hh.2), if_neg h]
  by_cases hlt : n' + 1 < ((ob m2 n).fs.getD i 0).toNat
  · rw [if_pos hlt] at hw' hlv
    have e1 : (((ob m2 n).fs.getD i 0) - 1).toNat = ((ob m2 n).fs.getD i 0).toNat - 1 := by
      have hone : (1 : UInt64) ≤ (ob m2 n).fs.getD i 0 := by rw [UInt64.le_iff_toNat_le]; show 1 ≤ _; omega
      rw [UInt64.toNat_sub_of_le _ _ hone]; rfl
    have hst := OwnM.storeF oM1 oF1 ho' hfi ((ob m2 n).fs.getD i 0 - 1)
    have hmp : putF m' n i ((ob m2 n).fs.getD i 0 - 1) = mapP (lowV n') m2 n (i + 1) := by rw [a1, ← hlv]; exact mapP_step hn hi
    rw [e1, ← hw', hmp] at hst
    obtain ⟨k1, k2, k3⟩ := hst
    have far : ∀ {g t' cs}, gf ≠ g → Bx W1 g t' cs → Bx w' g t' cs := fun hne hx => hx.grown k3 (.inr (fun e => hne (by injection e)))
    refine ⟨_, mapP_like, k1, k2, ⟨rfl, b', hRT, far ne3 x3, far ne4 x4, far ne5 x5, far ne1 x9, xB.grown k3 (by have := a7.size; have := hs1; omega) (fun k hk => by injection hk with hk; omega)⟩, ⟨by rw [← hs1]; exact k3.size, fun g t' cs hg hne hx => ?_⟩, fun v l hv => ?_⟩
    · have := fr1.2 g t' cs hg hne hx
      exact far (ofW.ne_bx hnl hx (Ne.symm hne)) this
    · obtain ⟨vs, nf, cf, h1, h2, h4, h5, h6⟩ := oF1
      exact World.ownsRow.kept (kb1 v l hv) k3 (own_unlike (kb1 v l hv) (h4 n _ _ h6 (List.getElem?_eq_getElem hnl)) (by decide))
  · rw [if_neg hlt] at hw' hlv
    have hmp : m' = mapP (lowV n') m2 n (i + 1) := by rw [a1]; exact (mapP_skip hlv).symm
    subst hw'
    exact ⟨m', by rw [hmp]; exact mapP_like, oM1, oF1, ⟨hmp, b', hRT, x3, x4, x5, x9, xB⟩, fr1, kb1⟩
/-- freeing where the model or the handle is not right -/
theorem Free20_no (tv ov sv : Value) (m : Mo) (sl g : Int) (r : Int) (hr : r = asked m sl g) (ha : ¬ asked m sl g = 0) (w : World) (h : Mod w tv ov sv m) :
    Calls Try.prog 30 #[.agg #[tv, ov, sv], .agg #[.int .i64 sl, .int .i64 g]] w fun e w' => ∃ t' o' s', e = .returned (.tuple #[.agg #[t', o', s'], .int .i64 r]) ∧ Mod w' t' o' s' .nil ∧ Below w.heap.size w w' := by
  have B : Below w.heap.size w w := Below.refl _ _
  have H := Lib.hid h
  have OT := Lib.hid (fun w h => open20_no tv ov sv m sl g r hr (by rw [hr]; exact ha) w h)
  have hne : (r != 0) = true := by rw [bne_iff_ne, hr]; exact ha
  clear hr ha h
  go_enter Try.func30, Try.ntmps30
  go_upto_region 1 with (fail)
  refine wp_gen (fun Wv => Bx Wv (w.heap.size) (26) (#[tv, ov, sv]) ∧ Bx Wv (w.heap.size + 1) (28) (#[.int .i64 sl, .int .i64 g]) ∧ Bx Wv (w.heap.size + 1 + 1) (26) (#[.slice none 0 0, .slice none 0 0, .slice none 0 0]) ∧ Below w.heap.size w Wv) ⟨((((Bx.at_ (by simp)).alloc _).alloc _)), (((Bx.at_ (by simp)).alloc _)), ((Bx.at_ (by simp))), ((((Below.refl _ w).alloc (by simp <;> omega) _).alloc (by simp <;> omega) _).alloc (by simp <;> omega) _)⟩ ?_
  rintro wa1 ⟨g1, g2, g3, b⟩
  replace B := B.trans (b.mono B.size); clear b
  have c_g1 := g1.cell; have f_g1 := g1.free; have a_g1 := fun o => (g1.alloc o).cell; have d_g1 := fun o o2 => ((g1.alloc o).alloc o2).cell; have e_g1 := fun o => (g1.alloc o).free
  have c_g2 := g2.cell; have f_g2 := g2.free; have a_g2 := fun o => (g2.alloc o).cell; have d_g2 := fun o o2 => ((g2.alloc o).alloc o2).cell; have e_g2 := fun o => (g2.alloc o).free
  have c_g3 := g3.cell; have f_g3 := g3.free; have a_g3 := fun o => (g3.alloc o).cell; have d_g3 := fun o o2 => ((g3.alloc o).alloc o2).cell; have e_g3 := fun o => (g3.alloc o).free
  go_wp2_with fail
  refine (OT.out _ (H.out.below B)).mono ?_
  rintro e wa2 ⟨rfl, b⟩
  try clear c_g1 f_g1 a_g1 d_g1 e_g1
  replace g1 := g1.below b; have c_g1 := g1.cell; have f_g1 := g1.free; have a_g1 := fun o => (g1.alloc o).cell; have d_g1 := fun o o2 => ((g1.alloc o).alloc o2).cell; have e_g1 := fun o => (g1.alloc o).free; try clear c_g2 f_g2 a_g2 d_g2 e_g2
  replace g2 := g2.below b; have c_g2 := g2.cell; have f_g2 := g2.free; have a_g2 := fun o => (g2.alloc o).cell; have d_g2 := fun o o2 => ((g2.alloc o).alloc o2).cell; have e_g2 := fun o => (g2.alloc o).free; try clear c_g3 f_g3 a_g3 d_g3 e_g3
  replace g3 := g3.below b; have c_g3 := g3.cell; have f_g3 := g3.free; have a_g3 := fun o => (g3.alloc o).cell; have d_g3 := fun o o2 => ((g3.alloc o).alloc o2).cell; have e_g3 := fun o => (g3.alloc o).free; replace B := B.trans (b.mono B.size); clear b
  go_upto_region 2 with (fail)
  refine wp_gen (fun Wv => Bx Wv (wa2.heap.size) (26) (#[.slice none 0 0, .slice none 0 0, .slice none 0 0]) ∧ Below wa2.heap.size wa2 Wv) ⟨(((Bx.at_ (by simp)).alloc _)), (((Below.refl _ wa2).alloc (by simp <;> omega) _).alloc (by simp <;> omega) _)⟩ ?_
  rintro wa3 ⟨g4, b⟩
  try clear c_g1 f_g1 a_g1 d_g1 e_g1
  replace g1 := g1.below b; have c_g1 := g1.cell; have f_g1 := g1.free; have a_g1 := fun o => (g1.alloc o).cell; have d_g1 := fun o o2 => ((g1.alloc o).alloc o2).cell; have e_g1 := fun o => (g1.alloc o).free; try clear c_g2 f_g2 a_g2 d_g2 e_g2
  replace g2 := g2.below b; have c_g2 := g2.cell; have f_g2 := g2.free; have a_g2 := fun o => (g2.alloc o).cell; have d_g2 := fun o o2 => ((g2.alloc o).alloc o2).cell; have e_g2 := fun o => (g2.alloc o).free; try clear c_g3 f_g3 a_g3 d_g3 e_g3
  replace g3 := g3.below b; have c_g3 := g3.cell; have f_g3 := g3.free; have a_g3 := fun o => (g3.alloc o).cell; have d_g3 := fun o o2 => ((g3.alloc o).alloc o2).cell; have e_g3 := fun o => (g3.alloc o).free; replace B := B.trans (b.mono B.size); clear b
  have c_g4 := g4.cell; have f_g4 := g4.free; have a_g4 := fun o => (g4.alloc o).cell; have d_g4 := fun o o2 => ((g4.alloc o).alloc o2).cell; have e_g4 := fun o => (g4.alloc o).free
  go_wp2
  refine bodyPost_ret (v := .tuple #[.agg #[.slice none 0 0, .slice none 0 0, .slice none 0 0], .int .i64 r]) (by simp [results, Try.results30, go_sem, c_g3, f_g3]) rfl ?_
  refine ⟨_, _, _, rfl, Mod.nil _, ?_⟩
  (repeat (first | refine Below.setCell ?_ (by first | exact Nat.le_refl _ | (simp <;> omega)) _ | refine Below.alloc ?_ (by first | exact B.size | (have := B.size; simp <;> omega)) _)); exact B
set_option maxRecDepth 100000 in
set_option maxHeartbeats 8000000 in
theorem Free20_any (tv ov sv : Value) (m : Mo) (sl g : Int) (M : Mo) (r : Int) (hM : M = freeM m sl g) (hr : r = freeE m sl g) (w : World) (h : Mod w tv ov sv m) :
    Calls Try.prog 30 #[.agg #[tv, ov, sv], .agg #[.int .i64 sl, .int .i64 g]] w fun e w' => ∃ t' o' s', e = .returned (.tuple #[.agg #[t', o', s'], .int .i64 r]) ∧ Mod w' t' o' s' M ∧ Below w.heap.size w w' := by
  by_cases ha : asked m sl g = 0
  · have B : Below w.heap.size w w := Below.refl _ _
    have H := Lib.hid h
    obtain ⟨c0, hr0, k, s, n', o, t, hk, hk16, hs, hu, hg, hso, hat, hown, hob1, _⟩ := asked_ok ha
    have OT := Lib.hid (fun w h => open20_ok tv ov sv m sl g n' ha hown w h)
    obtain ⟨_, hobjs, h16, _⟩ := chk_ok c0
    have hn' : n' < m.objs.length := (List.getElem?_eq_some_iff.1 hob1).1
    have hBU := fun n => busy_iff (m := m) (k := k) (g := g) (by rw [h16]; exact hk16) n
    subst hk
    have hM1 : M = if Busy m (k : Int) n' then .nil else ⟨m.types, (m.objs.map (lowO m n')).eraseIdx n', (m.slots.set k ⟨g, false, 0⟩).map (lowS n')⟩ := by
      rw [hM, freeM, freeE, if_pos ha, hown]
      by_cases hb : Busy m (k : Int) n'
      · rw [if_pos hb, if_pos hb]; rfl
      · rw [if_neg hb, if_neg hb]; rfl
    have hr1 : r = if Busy m (k : Int) n' then 45 else 0 := by rw [hr, freeE, if_pos ha, hown]
    have HM := Lib.hid hM1; have HRR := Lib.hid hr1; have HBU := Lib.hid (hBU n')
    have HS := Lib.hid hs; have H16 := Lib.hid h16; have HOB := Lib.hid hobjs; have HN := Lib.hid hn'; have HRO := Lib.hid (rough_chk c0)
    obtain ⟨S1, hS1⟩ : ∃ S, S = m.slots.set k ⟨g, false, 0⟩ := ⟨_, rfl⟩
    have HS1 := Lib.hid hS1
    have H1L := Lib.hid (show S1.length = 16 by rw [hS1, List.length_set]; exact h16)
    have H1B := Lib.hid (show ∀ s ∈ S1, s.used = true → 0 ≤ s.at_ ∧ s.at_ ≤ 1000 from by
      intro s2 hs2 hu2
      rw [hS1] at hs2
      rcases List.mem_or_eq_of_mem_set hs2 with h | h
      · have := ((chk_ok c0).2.2.2.2.2 s2 h).2.2 hu2; omega
      · rw [h] at hu2; cases hu2)
    clear hr hM ha c0 hr0 hu hso hat hown h hs h16 hM1 hr1 hBU hS1 hobjs hob1
    have hn1 : n' ≤ 1000 := by have := HN.out; have := HOB.out; omega
    clear hn'
    go_enter Try.func30, Try.ntmps30
    go_upto_region 1 with (fail)
    refine wp_gen (fun Wv => Bx Wv (w.heap.size) (26) (#[tv, ov, sv]) ∧ Bx Wv (w.heap.size + 1) (28) (#[.int .i64 k, .int .i64 g]) ∧ Bx Wv (w.heap.size + 1 + 1) (26) (#[.slice none 0 0, .slice none 0 0, .slice none 0 0]) ∧ Below w.heap.size w Wv) ⟨((((Bx.at_ (by simp)).alloc _).alloc _)), (((Bx.at_ (by simp)).alloc _)), ((Bx.at_ (by simp))), ((((Below.refl _ w).alloc (by simp <;> omega) _).alloc (by simp <;> omega) _).alloc (by simp <;> omega) _)⟩ ?_
    rintro wa1 ⟨g1, g2, g3, b⟩
    replace B := B.trans (b.mono B.size); clear b
    have c_g1 := g1.cell; have f_g1 := g1.free; have a_g1 := fun o => (g1.alloc o).cell; have d_g1 := fun o o2 => ((g1.alloc o).alloc o2).cell; have e_g1 := fun o => (g1.alloc o).free
    have c_g2 := g2.cell; have f_g2 := g2.free; have a_g2 := fun o => (g2.alloc o).cell; have d_g2 := fun o o2 => ((g2.alloc o).alloc o2).cell; have e_g2 := fun o => (g2.alloc o).free
    have c_g3 := g3.cell; have f_g3 := g3.free; have a_g3 := fun o => (g3.alloc o).cell; have d_g3 := fun o o2 => ((g3.alloc o).alloc o2).cell; have e_g3 := fun o => (g3.alloc o).free
    have hz1 := B.size; have hp1 := g3.lt
    go_wp2_with fail
    refine (OT.out _ (H.out.below B)).mono ?_
    rintro e wa2 ⟨t', o', s', rfl, om, b⟩
    try clear c_g1 f_g1 a_g1 d_g1 e_g1
    replace g1 := g1.below b; have c_g1 := g1.cell; have f_g1 := g1.free; have a_g1 := fun o => (g1.alloc o).cell; have d_g1 := fun o o2 => ((g1.alloc o).alloc o2).cell; have e_g1 := fun o => (g1.alloc o).free; try clear c_g2 f_g2 a_g2 d_g2 e_g2
    replace g2 := g2.below b; have c_g2 := g2.cell; have f_g2 := g2.free; have a_g2 := fun o => (g2.alloc o).cell; have d_g2 := fun o o2 => ((g2.alloc o).alloc o2).cell; have e_g2 := fun o => (g2.alloc o).free; try clear c_g3 f_g3 a_g3 d_g3 e_g3
    replace g3 := g3.below b; have c_g3 := g3.cell; have f_g3 := g3.free; have a_g3 := fun o => (g3.alloc o).cell; have d_g3 := fun o o2 => ((g3.alloc o).alloc o2).cell; have e_g3 := fun o => (g3.alloc o).free; replace B := B.trans (b.mono B.size); clear b
    obtain ⟨⟨tA, tn, tc, rfl⟩, ⟨oA, on, oc, rfl⟩, _⟩ := om.forms
    obtain ⟨gS, sc, rfl⟩ : ∃ g c, s' = .slice (some ⟨g, 0, none⟩) 16 c := by obtain ⟨g, n, c, e, e2⟩ := om.s.form (by have := H16.out; omega); rw [e2, H16.out] at e; exact ⟨g, c, e⟩
    have hgS := om.s.lt gS rfl; have hz_ := (om.s.lt gS rfl).1
    go_upto_region 2 with (fail)
    refine wp_gen (fun Wv => Bx Wv (wa2.heap.size) (26) (#[.slice tA tn tc, .slice oA on oc, .slice (some ⟨gS, 0, none⟩) 16 sc]) ∧ Bx Wv (wa2.heap.size + 1) (3) (#[.int .i64 n']) ∧ Below wa2.heap.size wa2 Wv) ⟨(((Bx.at_ (by simp)).alloc _)), ((Bx.at_ (by simp))), (((Below.refl _ wa2).alloc (by simp <;> omega) _).alloc (by simp <;> omega) _)⟩ ?_
    rintro wa3 ⟨g4, g5, b⟩
    try clear c_g1 f_g1 a_g1 d_g1 e_g1
    replace g1 := g1.below b; have c_g1 := g1.cell; have f_g1 := g1.free; have a_g1 := fun o => (g1.alloc o).cell; have d_g1 := fun o o2 => ((g1.alloc o).alloc o2).cell; have e_g1 := fun o => (g1.alloc o).free; try clear c_g2 f_g2 a_g2 d_g2 e_g2
    replace g2 := g2.below b; have c_g2 := g2.cell; have f_g2 := g2.free; have a_g2 := fun o => (g2.alloc o).cell; have d_g2 := fun o o2 => ((g2.alloc o).alloc o2).cell; have e_g2 := fun o => (g2.alloc o).free; try clear c_g3 f_g3 a_g3 d_g3 e_g3
    replace g3 := g3.below b; have c_g3 := g3.cell; have f_g3 := g3.free; have a_g3 := fun o => (g3.alloc o).cell; have d_g3 := fun o o2 => ((g3.alloc o).alloc o2).cell; have e_g3 := fun o => (g3.alloc o).free; replace om := om.below b; replace B := B.trans (b.mono B.size); clear b
    have c_g4 := g4.cell; have f_g4 := g4.free; have a_g4 := fun o => (g4.alloc o).cell; have d_g4 := fun o o2 => ((g4.alloc o).alloc o2).cell; have e_g4 := fun o => (g4.alloc o).free
    have c_g5 := g5.cell; have f_g5 := g5.free; have a_g5 := fun o => (g5.alloc o).cell; have d_g5 := fun o o2 => ((g5.alloc o).alloc o2).cell; have e_g5 := fun o => (g5.alloc o).free
    have HP := Lib.hid (OwnS.put3 (k := k) om.s (by have := H16.out; omega) ⟨g, false, 0⟩)
    obtain ⟨ix, p0, p1, p2⟩ := OwnS.cells om.s HS.out
    have fz := HP.out.2.2.2.2
    have hM3 := OwnM.slots om HP.out.2.1 HP.out.1
    have nx := fun {q : Nat} {tq : TypeId} {cs : Array Value} (hb : Bx wa3 q tq cs) (hne : gS ≠ q) => hb.grown HP.out.2.1 (.inr (fun e => hne (by injection e)))
    have r3 := nx g3 (by omega); have r4 := nx g4 (by omega); have r5 := nx g5 (by omega)
    have hb3 := B.grown HP.out.2.1 B.size (fun k hk => by injection hk with hk; rw [← hk]; have := HP.out.2.2.1; omega)
    rw [← HS1.out] at hM3
    have HH := Lib.hid (And.intro hM3 (And.intro r3 (And.intro r4 (And.intro r5 hb3))))
    clear nx r3 r4 r5 hb3 hM3
    go_upto_region 5 with (fail)
    generalize hp6 : wa2.heap.size = p6 at *
    refine wp_gen (fun Wv => OwnM Wv wa1.heap.size 67 (.slice tA tn tc) (.slice oA on oc) (.slice (some ⟨gS, 0, none⟩) 16 sc) ⟨m.types, m.objs, S1⟩ ∧ Bx Wv (w.heap.size + 1 + 1) 26 #[.slice none 0 0, .slice none 0 0, .slice none 0 0] ∧ Bx Wv p6 26 #[.slice tA tn tc, .slice oA on oc, .slice (some ⟨gS, 0, none⟩) 16 sc] ∧ Bx Wv (p6 + 1) 3 #[.int .i64 n'] ∧ Below w.heap.size w Wv) HH.out ?_
    rintro wz ⟨om2, r3, r4, r5, B2⟩
    obtain ⟨b1, hb1⟩ : ∃ b, b = wa1.heap.size := ⟨_, rfl⟩
    rw [← hb1] at om2
    have hb13 : w.heap.size + 1 + 1 < b1 := by omega
    have hb16 : b1 ≤ p6 := by omega
    have hg6 : gS < p6 := by omega
    clear HH om g1 g2 g3 g4 g5 B p0 p1 p2 fz ix HP c_g1 f_g1 a_g1 d_g1 e_g1 c_g2 f_g2 a_g2 d_g2 e_g2 c_g3 f_g3 a_g3 d_g3 e_g3 c_g4 f_g4 a_g4 d_g4 e_g4 c_g5 f_g5 a_g5 d_g5 e_g5 hb1 hp6 hz1 hp1 hgS hz_
    have hp7 := r5.lt
    have bz := (Below.refl wz.heap.size wz).alloc (Nat.le_refl _) (.cells #[.bool false] 4)
    have HZ := Lib.hid (And.intro (OwnM.below om2 bz) (And.intro (r3.below bz) (And.intro (r4.below bz) (And.intro (r5.below bz) (And.intro (Bx.new wz 4 #[.bool false]) (And.intro (B2.trans (bz.mono B2.size)) (show wz.heap.size < (wz.alloc (.cells #[.bool false] 4)).heap.size by simp)))))))
    clear om2 r3 r4 r5 B2 bz
    go_upto_region 6 with (fail)
    generalize hpb : wz.heap.size = pb at *
    refine wp_gen (fun Wv => OwnM Wv b1 67 (.slice tA tn tc) (.slice oA on oc) (.slice (some ⟨gS, 0, none⟩) 16 sc) ⟨m.types, m.objs, S1⟩ ∧ Bx Wv (w.heap.size + 1 + 1) 26 #[.slice none 0 0, .slice none 0 0, .slice none 0 0] ∧ Bx Wv p6 26 #[.slice tA tn tc, .slice oA on oc, .slice (some ⟨gS, 0, none⟩) 16 sc] ∧ Bx Wv (p6 + 1) 3 #[.int .i64 n'] ∧ Bx Wv pb 4 #[.bool false] ∧ Below w.heap.size w Wv ∧ pb < Wv.heap.size) ?_ ?_
    · exact HZ.out
    clear hpb
    rintro wy hy
    have HY := Lib.hid hy
    have c4 := hy.2.2.1.cell
    clear HZ hy
    go_wp2
    clear c4
    go_loopg [34] 16 (fun g i wr => ∃ j : Nat, j ≤ 16 ∧ g = 16 - j ∧ i = .int .i64 j ∧ Hid (∃ bb : Bool, (bb = true ↔ sloTo S1 n' j) ∧ OwnM wr b1 67 (.slice tA tn tc) (.slice oA on oc) (.slice (some ⟨gS, 0, none⟩) 16 sc) ⟨m.types, m.objs, mapT (lowS n') S1 j⟩ ∧ Bx wr (w.heap.size + 1 + 1) 26 #[.slice none 0 0, .slice none 0 0, .slice none 0 0] ∧ Bx wr p6 26 #[.slice tA tn tc, .slice oA on oc, .slice (some ⟨gS, 0, none⟩) 16 sc] ∧ Bx wr (p6 + 1) 3 #[.int .i64 n'] ∧ Bx wr pb 4 #[.bool bb] ∧ Below w.heap.size w wr ∧ pb < wr.heap.size))
    case atStart => exact ⟨0, by omega, by omega, rfl, Lib.hid ⟨false, ⟨fun h => by (cases h), fun h => absurd h sloTo_zero⟩, by rw [mapT_zero]; exact HY.out⟩⟩
    case round =>
      clear HY
      obtain ⟨j, hj, rfl, rfl, hh⟩ := hrel
      obtain ⟨bb, hbb, om, r3, r4, r5, r9, B, hpz⟩ := hh.out
      by_cases hlt : j < 16
      · obtain ⟨s1, hs1⟩ : ∃ s, S1[j]? = some s := ⟨_, List.getElem?_eq_getElem (by rw [H1L.out]; exact hlt)⟩
        have hbs := H1B.out s1 (List.mem_of_getElem? hs1)
        have hs2 := mapT_get (f := lowS n') hs1
        obtain ⟨ix, q0, q1, q2⟩ := OwnS.cells om.s hs2
        have HSL := Lib.hid hs1
        obtain ⟨b0, hb0⟩ : ∃ b, b = bb := ⟨_, rfl⟩
        have HB1 := Lib.hid (fun (b' : Bool) (e : b' = (b0 || (s1.used && (s1.at_ == (n' : Int))))) => show b' = true ↔ sloTo S1 n' (j + 1) from by
          rw [sloTo_step hs1, e, hb0, ← hbb]; simp [Bool.or_eq_true, Bool.and_eq_true])
        have HX := Lib.hid (And.intro om (And.intro r3 (And.intro r4 (And.intro r5 (And.intro r9 (And.intro B hpz))))))
        obtain ⟨wn, hwn⟩ : ∃ W, W = wr := ⟨_, rfl⟩
        subst hwn
        clear hh om r3 r4 r5 r9 B hbb hs1
        go_upto_region 9 with (fail)
        refine wp_gen (fun Wv => Bx Wv wn.heap.size 67 #[.int .i64 s1.gen, .bool s1.used, .int .i64 s1.at_] ∧ Below wn.heap.size wn Wv) ?_ ?_
        · exact ⟨Bx.new wn _ _, (Below.refl _ wn).alloc (Nat.le_refl _) _⟩
        rintro wx ⟨g11, b⟩
        generalize hp11 : wn.heap.size = p11 at *
        have hp11b : pb < p11 := by have := HX.out.2.2.2.2.2.2; omega
        have SX : ∀ x : Bool, OwnM (wx.setCell ⟨pb, 0, none⟩ (.bool x)) b1 67 (.slice tA tn tc) (.slice oA on oc) (.slice (some ⟨gS, 0, none⟩) 16 sc) ⟨m.types, m.objs, mapT (lowS n') S1 j⟩ ∧ Bx (wx.setCell ⟨pb, 0, none⟩ (.bool x)) (w.heap.size + 1 + 1) 26 #[.slice none 0 0, .slice none 0 0, .slice none 0 0] ∧ Bx (wx.setCell ⟨pb, 0, none⟩ (.bool x)) p6 26 #[.slice tA tn tc, .slice oA on oc, .slice (some ⟨gS, 0, none⟩) 16 sc] ∧ Bx (wx.setCell ⟨pb, 0, none⟩ (.bool x)) (p6 + 1) 3 #[.int .i64 n'] ∧ Bx (wx.setCell ⟨pb, 0, none⟩ (.bool x)) pb 4 #[.bool x] ∧ Bx (wx.setCell ⟨pb, 0, none⟩ (.bool x)) p11 67 #[.int .i64 s1.gen, .bool s1.used, .int .i64 s1.at_] ∧ Below w.heap.size w (wx.setCell ⟨pb, 0, none⟩ (.bool x)) ∧ pb < (wx.setCell ⟨pb, 0, none⟩ (.bool x)).heap.size := fun x => by
          subst hp11
          obtain ⟨om, r3, r4, r5, r9, B, hpz⟩ := HX.out
          have om2 := om.below b
          have r92 := r9.below b
          refine ⟨⟨om2.t.set r92 (by decide) (by decide), om2.o.set r92 (by decide) (by decide), own_set om2.s r92 (by decide)⟩, (r3.below b).far (p := ⟨pb, 0, none⟩) (by show _ ≠ pb; omega) _, (r4.below b).far (p := ⟨pb, 0, none⟩) (by show _ ≠ pb; omega) _, (r5.below b).far (p := ⟨pb, 0, none⟩) (by show _ ≠ pb; omega) _, ?_, g11.far (p := ⟨pb, 0, none⟩) (by show _ ≠ pb; omega) _, (B.trans (b.mono B.size)).setCell (p := ⟨pb, 0, none⟩) (by show _ ≤ pb; omega) _, ?_⟩
          · have := r92.set (i := 0) (.bool x); simpa using this
          · have := b.size; simp [World.setCell]; omega
        have c9 := (HX.out.2.2.2.2.1.below (hp11 ▸ b)).cell
        have f9 := (HX.out.2.2.2.2.1.below (hp11 ▸ b)).free
        have c5 := (HX.out.2.2.2.1.below (hp11 ▸ b)).cell
        have c11 := g11.cell
        have SX := Lib.hid SX
        clear g11 b hp11 HX ix q0 q1 q2
        have hlc := low_cases n' s1
        rcases hlc with hlc | ⟨hu, e1, e2⟩
        · have HE := Lib.hid (mapT_same HSL.out (low_same (by rcases hlc with h | h | h; exact .inl h; exact .inr h.2.2; exact .inr h.2.2)))
          rcases bb with _ | _
          all_goals
            rcases hlc with hu | ⟨hu, e1, e2⟩ | ⟨hu, e1, e2⟩
            all_goals
              rw [hu] at c11
              go_upto_region 10 with (fail)
              refine wp_gen (fun Wv => ∃ x : Bool, x = (b0 || (s1.used && (s1.at_ == (n' : Int)))) ∧ OwnM Wv b1 67 (.slice tA tn tc) (.slice oA on oc) (.slice (some ⟨gS, 0, none⟩) 16 sc) ⟨m.types, m.objs, mapT (lowS n') S1 j⟩ ∧ Bx Wv (w.heap.size + 1 + 1) 26 #[.slice none 0 0, .slice none 0 0, .slice none 0 0] ∧ Bx Wv p6 26 #[.slice tA tn tc, .slice oA on oc, .slice (some ⟨gS, 0, none⟩) 16 sc] ∧ Bx Wv (p6 + 1) 3 #[.int .i64 n'] ∧ Bx Wv pb 4 #[.bool x] ∧ Bx Wv p11 67 #[.int .i64 s1.gen, .bool s1.used, .int .i64 s1.at_] ∧ Below w.heap.size w Wv ∧ pb < Wv.heap.size) ⟨_, by first | (rw [hb0, hu, e1]; rfl) | (rw [hb0, hu]; rfl), SX.out _⟩ ?_
              rintro wq ⟨x, hx, om, r3, r4, r5, r9, r11, B, hpz⟩
              have HF := Lib.hid (And.intro (HB1.out x hx) (And.intro om (And.intro r3 (And.intro r4 (And.intro r5 (And.intro r9 (And.intro B hpz)))))))
              clear c9 f9 c5 c11 hx om r3 r4 r9 B
              have c5 := r5.cell
              have c11 := r11.cell
              rw [hu] at c11
              clear r5 r11
              go_wp2
              clear c5 c11
              go_roundg (16 - (j + 1))
              case measure => omega
              case rel =>
                refine ⟨j + 1, by omega, rfl, by go_num, Lib.hid ⟨x, ?_⟩⟩
                rw [HE.out]; exact HF.out
        · have HE := Lib.hid (mapT_set (f := lowS n') HSL.out)
          have HLS := Lib.hid (low_less hu e2)
          have hbd := hbs hu
          have hwr : IntKind.i64.wrap (s1.at_ - 1) = s1.at_ - 1 := IntWalk.i64_in _ (by omega)
          rcases bb with _ | _
          all_goals
            rw [hu] at c11
            go_upto_region 10 with (fail)
            refine wp_gen (fun Wv => ∃ x : Bool, x = (b0 || (s1.used && (s1.at_ == (n' : Int)))) ∧ OwnM Wv b1 67 (.slice tA tn tc) (.slice oA on oc) (.slice (some ⟨gS, 0, none⟩) 16 sc) ⟨m.types, m.objs, mapT (lowS n') S1 j⟩ ∧ Bx Wv (w.heap.size + 1 + 1) 26 #[.slice none 0 0, .slice none 0 0, .slice none 0 0] ∧ Bx Wv p6 26 #[.slice tA tn tc, .slice oA on oc, .slice (some ⟨gS, 0, none⟩) 16 sc] ∧ Bx Wv (p6 + 1) 3 #[.int .i64 n'] ∧ Bx Wv pb 4 #[.bool x] ∧ Bx Wv p11 67 #[.int .i64 s1.gen, .bool s1.used, .int .i64 s1.at_] ∧ Below w.heap.size w Wv ∧ pb < Wv.heap.size) ⟨_, by first | (rw [hb0, hu, e1]; rfl) | (rw [hb0, hu]; rfl), SX.out _⟩ ?_
            rintro wq ⟨x, hx, om, r3, r4, r5, r9, r11, B, hpz⟩
            have HF := Lib.hid (HB1.out x hx)
            clear c9 f9 c5 c11 hx
            have c4 := r4.cell; have c5 := r5.cell
            have c11 := r11.cell
            rw [hu] at c11
            obtain ⟨ix, q0, q1, q2⟩ := OwnS.cells om.s hs2
            have HP := Lib.hid (OwnS.put1 om.s hs2 (s1.at_ - 1))
            have fz := HP.out.2.2.2.2
            have hM3 := OwnM.slots om HP.out.2.1 HP.out.1
            have nx := fun {q : Nat} {tq : TypeId} {cs : Array Value} (hb : Bx wq q tq cs) (hne : gS ≠ q) => hb.grown HP.out.2.1 (.inr (fun e => hne (by injection e)))
            have y3 := nx r3 (own_ne_bx om.s r3 (by decide)); have y4 := nx r4 (own_ne_bx om.s r4 (by decide)); have y5 := nx r5 (own_ne_bx om.s r5 (by decide)); have y9 := nx r9 (own_ne_bx om.s r9 (by decide))
            have hb3 := B.grown HP.out.2.1 B.size (fun k hk => by injection hk with hk; rw [← hk]; have := HP.out.2.2.1; omega)
            have HH := Lib.hid (And.intro hM3 (And.intro y3 (And.intro y4 (And.intro y5 (And.intro y9 (And.intro hb3 (Nat.lt_of_lt_of_le hpz HP.out.2.1.size)))))))
            clear nx y3 y4 y5 y9 hb3 hM3 om r3 r4 r5 r9 r11 B q0 q1
            go_wp2
            clear c4 c5 c11 ix q2 fz
            go_roundg (16 - (j + 1))
            case measure => omega
            case rel =>
              refine ⟨j + 1, by omega, rfl, by go_num, Lib.hid ⟨x, HF.out, ?_⟩⟩
              rw [← HE.out, HLS.out]; exact HH.out
      · obtain rfl : j = 16 := by omega
        rw [mapT_done (by rw [H1L.out]; omega)] at om
        obtain ⟨m2, hm2⟩ : ∃ m2 : Mo, m2 = ⟨m.types, m.objs, S1.map (lowS n')⟩ := ⟨_, rfl⟩
        rw [← hm2] at om
        have hb1r : b1 ≤ wr.heap.size := by have := r4.lt; omega
        obtain ⟨J, hJ⟩ : ∃ J : Nat → Nat → Mo → World → Prop, J = fun n i m' W => m' = mapP (lowV n') m2 n i ∧ ∃ b : Bool, (b = true ↔ sloTo S1 n' 16 ∨ refTo m n' n i) ∧ Bx W (w.heap.size + 1 + 1) 26 #[.slice none 0 0, .slice none 0 0, .slice none 0 0] ∧ Bx W p6 26 #[.slice tA tn tc, .slice oA on oc, .slice (some ⟨gS, 0, none⟩) 16 sc] ∧ Bx W (p6 + 1) 3 #[.int .i64 n'] ∧ Bx W pb 4 #[.bool b] ∧ Below w.heap.size w W := ⟨_, rfl⟩
        have RF := refs_any m2 (.slice tA tn tc) (.slice oA on oc) (.slice (some ⟨gS, 0, none⟩) 16 sc) 57 #[] #[.pointer (some ⟨pb, 0, none⟩), .pointer (some ⟨p6 + 1, 0, none⟩)] b1 J wr hb1r (by rw [hm2]; exact HRO.out _) (fun _ _ => rfl)
          (by
            intro n i m' W W' hj hb
            subst hJ
            obtain ⟨a1, b, a2, a3, a4, a5, a6, a7⟩ := hj
            exact ⟨a1, b, a2, a3.below hb, a4.below hb, a5.below hb, a6.below hb, a7.trans (hb.mono a7.size)⟩)
          (by
            intro n m' W hn hj
            subst hJ; subst hm2
            obtain ⟨a1, b, a2, a3⟩ := hj
            exact ⟨a1.trans mapP_next, b, a2.trans (or_congr Iff.rfl (refTo_next (m := m) hn)), a3⟩)
          (by
            intro n i m' W hn hi hk3 hj
            subst hJ; subst hm2
            obtain ⟨a1, b, a2, a3⟩ := hj
            refine ⟨a1.trans (mapP_skip (if_neg (fun h => hk3 h.1))).symm, b, a2.trans (or_congr Iff.rfl ?_), a3⟩
            rw [refTo_step (m := m) hn hi]
            exact ⟨.inl, fun h => h.elim id (fun h => absurd h.2.1 hk3)⟩)
          (by
            intro n i m' gf W hn hi hk3 hl hW omW ofW hj
            subst hJ
            obtain ⟨a1, b, a2, a3, a4, a5, a6, a7⟩ := hj
            exact free_step hm2 hn hi hk3 hn1 (z := w.heap.size + 1 + 1) (by omega) omW ofW a1 a2 a3 a4 a5 a6 a7 (by omega) (by omega) hpz (by omega))
          m2 (Like.refl _) om (by subst hJ; exact ⟨by rw [mapP_zero], bb, hbb.trans ⟨.inl, fun h => h.elim id (fun h => absurd h refTo_zero)⟩, r3, r4, r5, r9, B⟩)
        have RF := Lib.hid RF; have HM2 := Lib.hid hm2; have HJ := Lib.hid hJ
        have c4 := r4.cell
        clear hh om r3 r4 r5 r9 hbb hJ hm2 B hb1r
        go_wp2_with fail
        refine RF.out.mono ?_
        rintro e wf ⟨rfl, m3, hl3, om, hj3⟩
        rw [HJ.out] at hj3
        obtain ⟨a1, b, a2, r3, r4, r5, r9, B⟩ := hj3
        have hm3 : m3 = ⟨m.types, m.objs.map (lowO m n'), S1.map (lowS n')⟩ := by
          rw [a1, HM2.out]
          exact free_map
        have hN3 : m2.objs.length = m.objs.length := by rw [HM2.out]
        rw [hN3] at a2
        have hbz : b = true ↔ Busy m (k : Int) n' := by rw [HBU.out, a2, HS1.out, H16.out]
        rw [hm3] at om
        clear a1 a2 hl3 c4 RF hN3 hm3
        have c9 := r9.cell; have c3 := r3.cell; have f3 := r3.free
        rcases b with _ | _
        · have hnb : ¬ Busy m (k : Int) n' := fun h => by have := hbz.2 h; cases this
          have hM1 : M = ⟨m.types, (m.objs.map (lowO m n')).eraseIdx n', S1.map (lowS n')⟩ := by rw [HM.out, if_neg hnb, HS1.out]
          have hr1 : r = 0 := by rw [HRR.out, if_neg hnb]
          obtain ⟨gO, oc', hO⟩ : ∃ g c, Value.slice oA on oc = .slice (some ⟨g, 0, none⟩) on c := by
            obtain ⟨vs, z1, z2, _⟩ := om.o
            obtain ⟨g, c, cur, e, _⟩ := own_form z2 (by simp; have := HN.out; omega)
            refine ⟨g, c, ?_⟩
            rw [e]; injection e with _ e2; rw [e2]
          cases hO
          obtain ⟨hon, xs, z2, z1, HER⟩ := om.o.erase (i := n') (by simpa using HN.out) (by simp; have := HOB.out; omega)
          have hon2 : on = m.objs.length := by simpa using hon
          have hni : n' < on := by rw [hon2]; exact HN.out
          have DE := Lib.hid (Delete_any gO on oc n' (n' + 1) b1 xs rfl hni (by have := HOB.out; omega) wf z2 z1)
          have OM := Lib.hid om; have HER := Lib.hid HER
          have c4 := r4.cell; have c5 := r5.cell
          have hw1 : IntKind.i64.wrap ((n' : Int) + 1) = (n' : Int) + 1 := IntWalk.i64_in _ (by omega)
          clear om z1 z2 hon hon2 hbz hnb
          subst hM1; subst hr1
          go_wp2_with fail
          refine DE.out.mono ?_
          rintro e wd ⟨rfl, od, gd⟩
          have oO2 := HER.out wd gd od
          have neq : ∀ {q : Nat} {tq : TypeId} {cs : Array Value}, Bx wf q tq cs → 72 ≠ tq → gO ≠ q := fun hx hne => by
            obtain ⟨vs, z1, z2, _⟩ := OM.out.o
            exact own_ne_bx z2 hx hne
          have nx := fun {q : Nat} {tq : TypeId} {cs : Array Value} (hb : Bx wf q tq cs) (hne : gO ≠ q) => hb.grown gd (.inr (fun e => hne (by injection e)))
          have y3 := nx r3 (neq r3 (by decide)); have y4 := nx r4 (neq r4 (by decide))
          have hgO : b1 ≤ gO := by
            obtain ⟨vs, z1, z2, _⟩ := OM.out.o
            exact (z2.lt gO rfl).1
          have B2 := B.grown gd B.size (fun k hk => by injection hk with hk; omega)
          have om2 : OwnM wd b1 67 (.slice tA tn tc) (.slice (some ⟨gO, 0, none⟩) (on - 1) oc) (.slice (some ⟨gS, 0, none⟩) 16 sc) ⟨m.types, (m.objs.map (lowO m n')).eraseIdx n', S1.map (lowS n')⟩ := by
            obtain ⟨vs, z1, z2, _⟩ := OM.out.o
            exact ⟨OwnT.kept OM.out.t z2 gd (by decide) (by decide), oO2, World.ownsRow.kept OM.out.s gd (own_unlike OM.out.s z2 (by decide))⟩
          obtain ⟨on1, hon1⟩ : ∃ n, n = on - 1 := ⟨_, rfl⟩
          rw [← hon1] at om2 ⊢
          have om3 := om2.set (i := 1) (u := .slice (some ⟨gO, 0, none⟩) on1 oc) y4
          have y43 := y4.set (i := 1) (.slice (some ⟨gO, 0, none⟩) on1 oc)
          have y33 := y3.far (p := ⟨p6, 1, none⟩) (by show _ ≠ p6; omega) (.slice (some ⟨gO, 0, none⟩) on1 oc)
          have B3 := B2.setCell (p := ⟨p6, 1, none⟩) (by show _ ≤ p6; omega) (.slice (some ⟨gO, 0, none⟩) on1 oc)
          have HF := Lib.hid (And.intro om3 (And.intro y33 (And.intro (show Bx (wd.setCell ⟨p6, 1, none⟩ (.slice (some ⟨gO, 0, none⟩) on1 oc)) p6 26 #[.slice tA tn tc, .slice (some ⟨gO, 0, none⟩) on1 oc, .slice (some ⟨gS, 0, none⟩) 16 sc] by simpa using y43) B3)))
          have cy4 := y4.cell; have fy4 := y4.free
          clear om3 y33 y43 B3 om2 y3 y4 nx neq B2 oO2 gd od r3 r4 r5 r9 B c9 c3 f3 c4 c5 hon1 OM HER DE
          go_upto_region 17 with (fail)
          refine wp_gen (fun Wv => OwnM Wv b1 67 (.slice tA tn tc) (.slice (some ⟨gO, 0, none⟩) on1 oc) (.slice (some ⟨gS, 0, none⟩) 16 sc) ⟨m.types, (m.objs.map (lowO m n')).eraseIdx n', S1.map (lowS n')⟩ ∧ Bx Wv (w.heap.size + 1 + 1) 26 #[.slice none 0 0, .slice none 0 0, .slice none 0 0] ∧ Bx Wv p6 26 #[.slice tA tn tc, .slice (some ⟨gO, 0, none⟩) on1 oc, .slice (some ⟨gS, 0, none⟩) 16 sc] ∧ Below w.heap.size w Wv) HF.out ?_
          clear HF cy4 fy4
          rintro wl ⟨om3, r3, r4, B3⟩
          have c3 := r3.cell; have f3 := r3.free; have c4 := r4.cell
          go_wp2
          refine bodyPost_ret (v := .tuple #[.agg #[.slice tA tn tc, .slice (some ⟨gO, 0, none⟩) on1 oc, .slice (some ⟨gS, 0, none⟩) 16 sc], .int .i64 0]) (by simp [results, Try.results30, go_sem, c3, f3]) rfl ?_
          refine ⟨_, _, _, rfl, (OwnM.set3 om3 r3).rd, ?_⟩
          exact ((B3.setCell (p := ⟨w.heap.size + 1 + 1, 0, none⟩) (by simp; omega) _).setCell (p := ⟨w.heap.size + 1 + 1, 1, none⟩) (by simp; omega) _).setCell (p := ⟨w.heap.size + 1 + 1, 2, none⟩) (by simp; omega) _
        · have hM1 : M = .nil := by rw [HM.out, if_pos (hbz.1 rfl)]
          have hr1 : r = 45 := by rw [HRR.out, if_pos (hbz.1 rfl)]
          subst hM1; subst hr1
          clear om r4 r5 hbz
          go_wp2
          refine bodyPost_ret (v := .tuple #[.agg #[.slice none 0 0, .slice none 0 0, .slice none 0 0], .int .i64 45]) (by simp [results, Try.results30, go_sem, c3, f3]) rfl ?_
          refine ⟨_, _, _, rfl, Mod.nil _, ?_⟩
          exact ((B.setCell (p := ⟨w.heap.size + 1 + 1, 0, none⟩) (by simp; omega) _).setCell (p := ⟨w.heap.size + 1 + 1, 1, none⟩) (by simp; omega) _).setCell (p := ⟨w.heap.size + 1 + 1, 2, none⟩) (by simp; omega) _
  · have hr1 : r = asked m sl g := by rw [hr, freeE, if_neg ha]
    have hM1 : M = .nil := by
      rw [hM, freeM, if_neg]; rw [freeE, if_neg ha]; exact ha
    rw [hM1]
    exact Free20_no tv ov sv m sl g r hr1 ha w h
end Go.Proofs.Ytgjpohhafmkhcaa
namespace Go.Proofs.Ytgjpohhafmkhcaa
open Go.RowKit L02 L13 L18 L20
end Go.Proofs.Ytgjpohhafmkhcaa
namespace Go.Proofs.Ytgjpohhafmkhcaa
open Go Go.RowKit
section
variable {P : Program} {ops : Array Oper} {rest : List Oper} {o : Oper} {a : Act} {Q : Exit → Act → World → Prop} {w : World}
theorem run_append_own2 (base : Nat) (t ty e : TypeId) (i : TypeInfo) (z : Value) (size bytes : Nat) (ht : P.underlying t = some (.slice e)) (hi : P.info? e = some i) (hz : i.zero = some z)
    (hsize : i.size = size) (hby : i.bytes = bytes) (hzs : z.cells.size = size) (hsz : 0 < size) (v : Value) (n : Nat) (xs : List Value) (hown : w.ownsRow base e size v n xs)
    (ad : Addr) (m c : Nat) (news : List Value) (hl : news.length = m * size) (hnews : ∀ j u, news[j]? = some u → w.cell? (ad.add j) = some u) (h1 : ∀ u ∈ news, u.oneCell' = true)
    (h63 : n + m ≤ maxLen) (hbytes : (n + m) * bytes ≤ 140737488355328) (hbase : base ≤ w.heap.size) :
    ∃ v' w', (Builtin.append_ #[t, t] ty #[v, .slice (some ad) m c]).run P w = .ok v' w' ∧ w'.ownsRow base e size v' (n + m) (xs ++ news) ∧ w.grownBy w' v.ownBlock ∧ ∀ g, v'.ownBlock = some g → v.ownBlock = some g ∨ w.heap.size ≤ g := by
  obtain ⟨v', w', hrun, r1, r2, _⟩ := run_append_own (P := P) w base t ty e i z size bytes ht hi hz hsize hby hzs hsz v n xs hown ad m c news hl hnews h1 h63 hbytes hbase
  refine ⟨v', w', hrun, r1, r2, fun g hg => ?_⟩
  rcases hown.2 with ⟨rfl, rfl⟩ | ⟨g0, cap, cur, rfl, hB, hg0, hc, hm, hcs, htk⟩
  · have hxs : xs = [] := List.eq_nil_of_length_eq_zero (by have := hown.1; simpa using this)
    obtain ⟨v2, w2, hrun2, r3, _⟩ := run_append_own (P := P) w w.heap.size t ty e i z size bytes ht hi hz hsize hby hzs hsz (.slice none 0 0) 0 [] (World.ownsRow_nil w _ _ _) ad m c news hl hnews h1 h63 hbytes (Nat.le_refl _)
    rw [hrun] at hrun2
    injection hrun2 with e1 e2
    subst e1; subst e2
    exact .inr (r3.lt g hg).1
  · subst hsize
    have hcell : ∀ j u, xs[j]? = some u → w.cell? ((⟨g0, 0, none⟩ : Addr).add j) = some u := fun j u hu => hown.cells (g := g0) rfl j u hu
    by_cases hroom : n + m ≤ cap
    · have hr := run_append_room_cells (P := P) w t ty e i ht hi g0 0 n cap ad m c news hl hnews h1 hroom (fun j hj => by
        have hlt : 0 + n * i.size + j < cur.size := by
          have : (n + m) * i.size ≤ cap * i.size := Nat.mul_le_mul hroom (Nat.le_refl _)
          rw [Nat.add_mul] at this; rw [hcs]; rw [hl] at hj; omega
        have := cell_of_row w g0 (0 + n * i.size + j) cur e (0, 0) hg0
        rw [this, Array.getElem?_eq_getElem hlt]; rfl) (fun j hj => frozen_of_row w g0 _ cur e hg0)
      rw [hrun] at hr
      injection hr with e1 e2
      subst e1
      exact .inl hg
    · obtain ⟨v2, w2, hrun2, r3, _⟩ := run_append_arg_grows (P := P) w t ty e i z i.size bytes ht hi hz rfl hby hzs hsz ⟨g0, 0, none⟩ n cap xs hown.1 hcell ad m c news hl hnews (by omega) h63 hbytes
      rw [hrun] at hrun2
      injection hrun2 with e1 e2
      subst e1; subst e2
      exact .inr (r3.lt g hg).1
theorem wpList_append2 (hgd : Region.wanted o (yielded ops a.tmps) = true) {s x : Operand} {t e B sz by_ : Nat} (ho : o.op = .call { callee := .builtin .append, args := #[s, x], argTypes := #[t, t] })
    {v z : Value} {n m c : Nat} {xs ys : List Value} (hs : a.eval s = v) {ad : Addr} (hx : a.eval x = .slice (some ad) m c) (ht : P.underlying t = some (.slice e))
    (hi : (P.info? e).map (fun i => (i.zero, i.size, i.bytes)) = some (some z, sz, by_)) (hzs : z.cells.size = sz) (hsz : 0 < sz)
    (hown : w.ownsRow B e sz v n xs) (hrd : Rd w sz (.slice (some ad) m c) m ys) (h1 : ∀ u ∈ ys, u.oneCell' = true) (hm : 0 < m) (h63 : n + m ≤ 9223372036854775807) (hbytes : (n + m) * by_ ≤ 140737488355328)
    {w0 : World} (hb : Below B w0 w) (hB : B ≤ w0.heap.size)
    (h : ∀ v' w', w'.ownsRow B e sz v' (n + m) (xs ++ ys) → Below B w0 w' → w.grownBy w' v.ownBlock → (∀ g, v'.ownBlock = some g → v.ownBlock = some g ∨ w.heap.size ≤ g) → wpList P ops Q rest (a.put o.dst v') w') : wpList P ops Q (o :: rest) a w := by
  obtain ⟨i, hi1, hi2, hi3, hi4⟩ := info3 hi
  have hcell : ∀ j u, ys[j]? = some u → w.cell? (ad.add j) = some u := by
    obtain ⟨A, c', e1, s1, s2, s3, s4, s5⟩ := hrd
    injection e1 with e1 _ _
    intro j u hu
    obtain ⟨p1, p2, p3⟩ := s5 hm ad e1.symm
    obtain ⟨b, q, sp⟩ := ad
    simp at p1; subst p1
    rw [show ((⟨b, q, none⟩ : Addr).add j) = ⟨b, q + j, none⟩ by unfold Addr.add; split <;> simp_all]
    exact p3 j u hu
  have hyl : ys.length = m * sz := by obtain ⟨A, c', e1, s1, s2, s3, _⟩ := hrd; exact s3
  obtain ⟨v', w', hrun, r1, r2, r3⟩ := run_append_own2 (P := P) (w := w) B t o.type e i z sz by_ ht hi1 hi2 hi3 hi4 hzs hsz v n xs hown ad m c ys hyl hcell h1 (by unfold maxLen; omega) hbytes (Nat.le_trans hB hb.size)
  refine wpList_wanted hgd fun K hK => ?_
  unfold Oper.wp
  simp [execOp, ho, resolve, invoke, builtin, hs, hx, hrun, Result.andThen]
  exact hK _ _ (h v' w' r1 (hb.grown r2 (Nat.le_trans hB hb.size) fun k hk => (hown.lt k hk).1) r2 r3)
end
end Go.Proofs.Ytgjpohhafmkhcaa
namespace Go.Proofs.Ytgjpohhafmkhcaa
open Go.RowKit L02 L13 L18 L20
/-- memory while the reference searches: seen, what is found, the stack -/
structure Fnd (w wr : World) (tv ov sv : Value) (N : Nat) (sn on st : Value) (od ord S : List Nat) : Prop where
  g1 : Bx wr w.heap.size 26 #[tv, ov, sv]
  hs : wr.ownsRow w.heap.size 4 1 sn N ((seenV N od).map .bool)
  ho : OwnI wr w.heap.size 3 on (natI ord)
  ht : OwnI wr w.heap.size 3 st (natI S)
  ne : ∀ g, st.ownBlock = some g → on.ownBlock ≠ some g
  B : Below w.heap.size w wr
section
variable {w wr w' : World} {tv ov sv sn on st v' : Value} {N x : Nat} {od ord S : List Nat}
theorem Fnd.below (e : Fnd w wr tv ov sv N sn on st od ord S) (b : Below wr.heap.size wr w') : Fnd w w' tv ov sv N sn on st od ord S :=
  ⟨e.g1.below b, own_below e.hs b, OwnI.below e.ho b, OwnI.below e.ht b, e.ne, e.B.trans (b.mono e.B.size)⟩
theorem lit_b (wr : World) (x : Nat) : Below wr.heap.size wr (wr.alloc (.cells #[.int .i64 (x : Int)] 3)) := (Below.refl _ wr).alloc (Nat.le_refl _) _
theorem ne_swap {a b : Value} (h : ∀ g, b.ownBlock = some g → a.ownBlock ≠ some g) : a.ownBlock = none ∨ a.ownBlock ≠ b.ownBlock := by
  cases hb : b.ownBlock with
  | none => cases a.ownBlock <;> simp
  | some g => exact .inr (h g hb)
theorem ne_swap' {a b : Value} (h : ∀ g, b.ownBlock = some g → a.ownBlock ≠ some g) : b.ownBlock = none ∨ b.ownBlock ≠ a.ownBlock := by
  cases hb : b.ownBlock with
  | none => exact .inl rfl
  | some g => exact .inr (fun e => h g hb e.symm)
end
end Go.Proofs.Ytgjpohhafmkhcaa
namespace Go.Proofs.Ytgjpohhafmkhcaa
open Go.RowKit L02 L13 L18 L20
end Go.Proofs.Ytgjpohhafmkhcaa
namespace Go.Proofs.Ytgjpohhafmkhcaa
open Go.RowKit L02 L13 L18 L20
/-- a number of an own row is stored -/
theorem OwnI.put {w : World} {B E : Nat} {v : Value} {l : List Int} (h : OwnI w B E v l) {k : Nat} (hk : k < l.length) : ∃ gs, v.ownBlock = some gs ∧ (∀ W, (Instr.indexAt 52 v (.int .i64 (k : Int))).run Try.prog W = .ok (.pointer (some ⟨gs, k, none⟩)) W) ∧ w.cell? ⟨gs, k, none⟩ = some (.int .i64 (l.getD k 0)) ∧ w.frozen? ⟨gs, k, none⟩ = false ∧ B ≤ gs ∧ gs < w.heap.size ∧
    ∀ x : Int, OwnI (w.setCell ⟨gs, k, none⟩ (.int .i64 x)) B E v (l.set k x) ∧ w.grownBy (w.setCell ⟨gs, k, none⟩ (.int .i64 x)) (some gs) := by
  obtain ⟨gs, cap, cur, rfl, hB, hg, hnc, hcm, hcs, htake⟩ := own_form h (by omega)
  have hix := fun W => Rd.ixN (P := Try.prog) (Rd.of_own h) Try.underlying52 one_int hk W
  have hc := Rd.cell (Rd.of_own h) (j := k) (u := .int .i64 (l.getD k 0)) (by rw [List.getElem?_map, List.getElem?_eq_getElem hk, List.getD_eq_getElem?_getD, List.getElem?_eq_getElem hk]; rfl)
  refine ⟨gs, rfl, fun W => by have := hix W; simpa [cellAt] using this, by simpa [cellAt] using hc, h.frozenAt k, hB, (World.ownsRow.lt h gs rfl).2, fun x => ?_⟩
  have hst := World.ownsRow.stored h k (.int .i64 x)
  refine ⟨?_, hst.2⟩
  refine OwnI.of hst.1 ?_
  rw [List.map_set]; rfl
end Go.Proofs.Ytgjpohhafmkhcaa
