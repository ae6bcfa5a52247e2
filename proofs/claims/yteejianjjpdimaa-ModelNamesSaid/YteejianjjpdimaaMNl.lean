/- Contracts of the functions that the laws 'N' reach, part 12. No condition. -/
import Derived.Test.YteejianjjpdimaaMNk
set_option linter.unusedVariables false
set_option linter.unusedSimpArgs false
namespace Go.Proofs.Yteejianjjpdimaa
open Go.RowKit L02 L13 L18 L20
set_option maxRecDepth 100000 in
set_option maxHeartbeats 8000000 in
theorem Drop20_any (tv ov sv : Value) (m : Mo) (sl g : Int) (M : Mo) (r : Int) (hM : M = dropM m sl g) (hr : r = asked m sl g) (w : World) (h : Mod w tv ov sv m) :
    Calls Try.prog 21 #[.agg #[tv, ov, sv], .agg #[.int .i64 sl, .int .i64 g]] w fun e w' => ∃ t' o' s', e = .returned (.tuple #[.agg #[t', o', s'], .int .i64 r]) ∧ Mod w' t' o' s' M ∧ Below w.heap.size w w' := by
  have B : Below w.heap.size w w := Below.refl _ _
  have H := Lib.hid h
  by_cases ha : asked m sl g = 0
  · obtain ⟨c0, hr0, k, s, n', o, t, hk, hk16, hs, hu, hg, hso, hat, hown, _⟩ := asked_ok ha
    have OT := Lib.hid (fun w h => open20_ok tv ov sv m sl g n' ha hown w h)
    obtain ⟨_, _, h16, _⟩ := chk_ok c0
    have hr1 : r = 0 := by rw [hr, ha]
    have hM1 : M = ⟨m.types, m.objs, m.slots.set k ⟨g, false, 0⟩⟩ := by rw [hM, dropM, if_pos ha, hk, Int.toNat_natCast]
    subst hk
    subst hr1; subst hM1
    have HS := Lib.hid hs; have H16 := Lib.hid h16
    clear hr hM ha c0 hr0 hu hso hat hown h hs h16
    go_enter Try.func21, Try.ntmps21
    go_upto_region 1 with (fail)
    refine wp_gen (fun Wv => Bx Wv (w.heap.size) (26) (#[tv, ov, sv]) ∧ Bx Wv (w.heap.size + 1) (50) (#[.int .i64 k, .int .i64 g]) ∧ Bx Wv (w.heap.size + 1 + 1) (26) (#[.slice none 0 0, .slice none 0 0, .slice none 0 0]) ∧ Below w.heap.size w Wv) ⟨((((Bx.at_ (by simp)).alloc _).alloc _)), (((Bx.at_ (by simp)).alloc _)), ((Bx.at_ (by simp))), ((((Below.refl _ w).alloc (by simp <;> omega) _).alloc (by simp <;> omega) _).alloc (by simp <;> omega) _)⟩ ?_
    rintro wa1 ⟨g1, g2, g3, b⟩
    replace B := B.trans (b.mono B.size); clear b
    have c_g1 := g1.cell; have f_g1 := g1.free; have a_g1 := fun o => (g1.alloc o).cell; have d_g1 := fun o o2 => ((g1.alloc o).alloc o2).cell; have e_g1 := fun o => (g1.alloc o).free
    have c_g2 := g2.cell; have f_g2 := g2.free; have a_g2 := fun o => (g2.alloc o).cell; have d_g2 := fun o o2 => ((g2.alloc o).alloc o2).cell; have e_g2 := fun o => (g2.alloc o).free
    have c_g3 := g3.cell; have f_g3 := g3.free; have a_g3 := fun o => (g3.alloc o).cell; have d_g3 := fun o o2 => ((g3.alloc o).alloc o2).cell; have e_g3 := fun o => (g3.alloc o).free
    have hz1 := B.size; have hp1 := g3.lt
    go_wp2_with fail
    refine (OT.out _ (H.out.below B)).mono ?_
    rintro e wa2 ⟨t', o', s', rfl, om, b⟩
    try clear c_g1 f_g1 a_g1 d_g1 e_g1
    replace g1 := g1.below b; have c_g1 := g1.cell; have f_g1 := g1.free; have a_g1 := fun o => (g1.alloc o).cell; have d_g1 := fun o o2 => ((g1.alloc o).alloc o2).cell; have e_g1 := fun o => (g1.alloc o).free; try clear c_g2 f_g2 a_g2 d_g2 e_g2
    replace g2 := g2.below b; have c_g2 := g2.cell; have f_g2 := g2.free; have a_g2 := fun o => (g2.alloc o).cell; have d_g2 := fun o o2 => ((g2.alloc o).alloc o2).cell; have e_g2 := fun o => (g2.alloc o).free; try clear c_g3 f_g3 a_g3 d_g3 e_g3
    replace g3 := g3.below b; have c_g3 := g3.cell; have f_g3 := g3.free; have a_g3 := fun o => (g3.alloc o).cell; have d_g3 := fun o o2 => ((g3.alloc o).alloc o2).cell; have e_g3 := fun o => (g3.alloc o).free; replace B := B.trans (b.mono B.size); clear b
    obtain ⟨⟨tA, tn, tc, rfl⟩, ⟨oA, on, oc, rfl⟩, _⟩ := om.forms
    obtain ⟨gS, sc, rfl⟩ : ∃ g c, s' = .slice (some ⟨g, 0, none⟩) 16 c := by obtain ⟨g, n, c, e, e2⟩ := om.s.form (by have := H16.out; omega); rw [e2, H16.out] at e; exact ⟨g, c, e⟩
    have hgS := om.s.lt gS rfl
    go_upto_region 2 with (fail)
    refine wp_gen (fun Wv => Bx Wv (wa2.heap.size) (26) (#[.slice tA tn tc, .slice oA on oc, .slice (some ⟨gS, 0, none⟩) 16 sc]) ∧ Below wa2.heap.size wa2 Wv) ⟨((Bx.at_ (by simp))), ((Below.refl _ wa2).alloc (by simp <;> omega) _)⟩ ?_
    rintro wa3 ⟨g4, b⟩
    try clear c_g1 f_g1 a_g1 d_g1 e_g1
    replace g1 := g1.below b; have c_g1 := g1.cell; have f_g1 := g1.free; have a_g1 := fun o => (g1.alloc o).cell; have d_g1 := fun o o2 => ((g1.alloc o).alloc o2).cell; have e_g1 := fun o => (g1.alloc o).free; try clear c_g2 f_g2 a_g2 d_g2 e_g2
    replace g2 := g2.below b; have c_g2 := g2.cell; have f_g2 := g2.free; have a_g2 := fun o => (g2.alloc o).cell; have d_g2 := fun o o2 => ((g2.alloc o).alloc o2).cell; have e_g2 := fun o => (g2.alloc o).free; try clear c_g3 f_g3 a_g3 d_g3 e_g3
    replace g3 := g3.below b; have c_g3 := g3.cell; have f_g3 := g3.free; have a_g3 := fun o => (g3.alloc o).cell; have d_g3 := fun o o2 => ((g3.alloc o).alloc o2).cell; have e_g3 := fun o => (g3.alloc o).free; replace om := om.below b; replace B := B.trans (b.mono B.size); clear b
    have c_g4 := g4.cell; have f_g4 := g4.free; have a_g4 := fun o => (g4.alloc o).cell; have d_g4 := fun o o2 => ((g4.alloc o).alloc o2).cell; have e_g4 := fun o => (g4.alloc o).free
    have HP := Lib.hid (OwnS.put3 (k := k) om.s (by have := H16.out; omega) ⟨g, false, 0⟩)
    obtain ⟨ix, p0, p1, p2⟩ := OwnS.cells om.s HS.out
    have fz := HP.out.2.2.2.2
    have hM3 := OwnM.slots om HP.out.2.1 HP.out.1
    have nx := fun {q : Nat} {tq : TypeId} {cs : Array Value} (hb : Bx wa3 q tq cs) (hne : gS ≠ q) => hb.grown HP.out.2.1 (.inr (fun e => hne (by injection e)))
    have r3 := nx g3 (by omega); have r4 := nx g4 (by omega)
    have hb3 := B.grown HP.out.2.1 B.size (fun k hk => by injection hk with hk; rw [← hk]; have := HP.out.2.2.1; omega)
    have HH := Lib.hid (And.intro hM3 (And.intro r3 (And.intro r4 hb3)))
    clear nx r3 r4 hb3 hM3
    go_upto_region 5 with (fail)
    refine wp_gen (fun Wv => OwnM Wv wa1.heap.size 48 (.slice tA tn tc) (.slice oA on oc) (.slice (some ⟨gS, 0, none⟩) 16 sc) ⟨m.types, m.objs, m.slots.set k ⟨g, false, 0⟩⟩ ∧ Bx Wv (w.heap.size + 1 + 1) 26 #[.slice none 0 0, .slice none 0 0, .slice none 0 0] ∧ Bx Wv wa2.heap.size 26 #[.slice tA tn tc, .slice oA on oc, .slice (some ⟨gS, 0, none⟩) 16 sc] ∧ Below w.heap.size w Wv) HH.out ?_
    rintro wz ⟨om2, r3, r4, B2⟩
    clear HH om g1 g2 g3 g4 B p0 p1 p2 fz ix HP c_g1 f_g1 a_g1 d_g1 e_g1 c_g2 f_g2 a_g2 d_g2 e_g2 c_g3 f_g3 a_g3 d_g3 e_g3 c_g4 f_g4 a_g4 d_g4 e_g4
    have c3 := r3.cell; have f3 := r3.free; have c4 := r4.cell
    go_wp2
    refine bodyPost_ret (v := .tuple #[.agg #[.slice tA tn tc, .slice oA on oc, .slice (some ⟨gS, 0, none⟩) 16 sc], .int .i64 0]) (by simp [results, Try.results21, go_sem, c3, f3]) rfl ?_
    refine ⟨_, _, _, rfl, (OwnM.set3 om2 r3).rd, ?_⟩
    exact ((B2.setCell (p := ⟨w.heap.size + 1 + 1, 0, none⟩) (by simp; omega) _).setCell (p := ⟨w.heap.size + 1 + 1, 1, none⟩) (by simp; omega) _).setCell (p := ⟨w.heap.size + 1 + 1, 2, none⟩) (by simp; omega) _
  · have OT := Lib.hid (fun w h => open20_no tv ov sv m sl g r hr (by rw [hr]; exact ha) w h)
    have hM1 : M = .nil := by rw [hM, dropM, if_neg ha]
    have hne : (r != 0) = true := by rw [bne_iff_ne, hr]; exact ha
    subst hM1
    clear hr hM ha h
    go_enter Try.func21, Try.ntmps21
    go_upto_region 1 with (fail)
    refine wp_gen (fun Wv => Bx Wv (w.heap.size) (26) (#[tv, ov, sv]) ∧ Bx Wv (w.heap.size + 1) (50) (#[.int .i64 sl, .int .i64 g]) ∧ Bx Wv (w.heap.size + 1 + 1) (26) (#[.slice none 0 0, .slice none 0 0, .slice none 0 0]) ∧ Below w.heap.size w Wv) ⟨((((Bx.at_ (by simp)).alloc _).alloc _)), (((Bx.at_ (by simp)).alloc _)), ((Bx.at_ (by simp))), ((((Below.refl _ w).alloc (by simp <;> omega) _).alloc (by simp <;> omega) _).alloc (by simp <;> omega) _)⟩ ?_
    rintro wa1 ⟨g1, g2, g3, b⟩
    replace B := B.trans (b.mono B.size); clear b
    have c_g1 := g1.cell; have f_g1 := g1.free; have a_g1 := fun o => (g1.alloc o).cell; have d_g1 := fun o o2 => ((g1.alloc o).alloc o2).cell; have e_g1 := fun o => (g1.alloc o).free
    have c_g2 := g2.cell; have f_g2 := g2.free; have a_g2 := fun o => (g2.alloc o).cell; have d_g2 := fun o o2 => ((g2.alloc o).alloc o2).cell; have e_g2 := fun o => (g2.alloc o).free
    have c_g3 := g3.cell; have f_g3 := g3.free; have a_g3 := fun o => (g3.alloc o).cell; have d_g3 := fun o o2 => ((g3.alloc o).alloc o2).cell; have e_g3 := fun o => (g3.alloc o).free
    go_wp2_with fail
    refine (OT.out _ (H.out.below B)).mono ?_
    rintro e wa2 ⟨rfl, b⟩
    try clear c_g1 f_g1 a_g1 d_g1 e_g1
    replace g1 := g1.below b; have c_g1 := g1.cell; have f_g1 := g1.free; have a_g1 := fun o => (g1.alloc o).cell; have d_g1 := fun o o2 => ((g1.alloc o).alloc o2).cell; have e_g1 := fun o => (g1.alloc o).free; try clear c_g2 f_g2 a_g2 d_g2 e_g2
    replace g2 := g2.below b; have c_g2 := g2.cell; have f_g2 := g2.free; have a_g2 := fun o => (g2.alloc o).cell; have d_g2 := fun o o2 => ((g2.alloc o).alloc o2).cell; have e_g2 := fun o => (g2.alloc o).free; try clear c_g3 f_g3 a_g3 d_g3 e_g3
    replace g3 := g3.below b; have c_g3 := g3.cell; have f_g3 := g3.free; have a_g3 := fun o => (g3.alloc o).cell; have d_g3 := fun o o2 => ((g3.alloc o).alloc o2).cell; have e_g3 := fun o => (g3.alloc o).free; replace B := B.trans (b.mono B.size); clear b
    go_upto_region 2 with (fail)
    refine wp_gen (fun Wv => Bx Wv (wa2.heap.size) (26) (#[.slice none 0 0, .slice none 0 0, .slice none 0 0]) ∧ Below wa2.heap.size wa2 Wv) ⟨((Bx.at_ (by simp))), ((Below.refl _ wa2).alloc (by simp <;> omega) _)⟩ ?_
    rintro wa3 ⟨g4, b⟩
    try clear c_g1 f_g1 a_g1 d_g1 e_g1
    replace g1 := g1.below b; have c_g1 := g1.cell; have f_g1 := g1.free; have a_g1 := fun o => (g1.alloc o).cell; have d_g1 := fun o o2 => ((g1.alloc o).alloc o2).cell; have e_g1 := fun o => (g1.alloc o).free; try clear c_g2 f_g2 a_g2 d_g2 e_g2
    replace g2 := g2.below b; have c_g2 := g2.cell; have f_g2 := g2.free; have a_g2 := fun o => (g2.alloc o).cell; have d_g2 := fun o o2 => ((g2.alloc o).alloc o2).cell; have e_g2 := fun o => (g2.alloc o).free; try clear c_g3 f_g3 a_g3 d_g3 e_g3
    replace g3 := g3.below b; have c_g3 := g3.cell; have f_g3 := g3.free; have a_g3 := fun o => (g3.alloc o).cell; have d_g3 := fun o o2 => ((g3.alloc o).alloc o2).cell; have e_g3 := fun o => (g3.alloc o).free; replace B := B.trans (b.mono B.size); clear b
    have c_g4 := g4.cell; have f_g4 := g4.free; have a_g4 := fun o => (g4.alloc o).cell; have d_g4 := fun o o2 => ((g4.alloc o).alloc o2).cell; have e_g4 := fun o => (g4.alloc o).free
    go_wp2
    refine bodyPost_ret (v := .tuple #[.agg #[.slice none 0 0, .slice none 0 0, .slice none 0 0], .int .i64 r]) (by simp [results, Try.results21, go_sem, c_g3, f_g3]) rfl ?_
    refine ⟨_, _, _, rfl, Mod.nil _, ?_⟩
    (repeat (first | refine Below.setCell ?_ (by first | exact Nat.le_refl _ | (simp <;> omega)) _ | refine Below.alloc ?_ (by first | exact B.size | (have := B.size; simp <;> omega)) _)); exact B
end Go.Proofs.Yteejianjjpdimaa
namespace Go.Proofs.Yteejianjjpdimaa
open Go.RowKit L02 L13 L18 L20
/-- a row of an own table -/
theorem OwnT.at1 {w : World} {base : Nat} {v : Value} {L : List (List UInt8)} (h : OwnT w base v L) {k : Nat} {l : List UInt8} (hl : L[k]? = some l) :
    ∃ ad y, (∀ W, (Instr.indexAt 22 v (.int .i64 (k : Int))).run Try.prog W = .ok (.pointer (some ad)) W) ∧ w.cell? ad = some y ∧ (∀ ty W, (Builtin.len_ #[41] ty #[y]).run Try.prog W = .ok (.int .i64 (l.length : Int)) W) ∧ v.ownBlock = some ad.block := by
  obtain ⟨vs, h1, h2, h4⟩ := h
  have hk : k < L.length := (List.getElem?_eq_some_iff.1 hl).1
  have hv : vs[k]? = some vs[k] := List.getElem?_eq_getElem (by omega)
  have hr := h4 k _ _ hv hl
  obtain ⟨g, c, cur, e, hg, _⟩ := own_form h2 (by omega)
  refine ⟨cellAt v (k * 1), vs[k], fun W => Rd.ixN (Rd.of_own h2) Try.underlying22 one_bytes hk W, by rw [Nat.mul_one]; exact Rd.cell (Rd.of_own h2) hv, Rd.len (OwnB.rd hr) Try.underlying41, ?_⟩
  rw [e]; rfl
/-- make([]uint64, n) -/
theorem run_make_words {w : World} (n : Nat) (hn : n ≤ 1000) : ∃ w', (Instr.makeSlice 43 (.int .i64 (n : Int)) (.int .i64 (n : Int))).run Try.prog w = .ok (.slice (some ⟨w.heap.size, 0, none⟩) n n) w' ∧ OwnW w' w.heap.size 46 (.slice (some ⟨w.heap.size, 0, none⟩) n n) (List.replicate n 0) ∧ Below w.heap.size w w' := by
  obtain ⟨i, hi1, hi2, hi3, hi4⟩ := info3 info_u64
  obtain ⟨w', hrun, g1, g2⟩ := run_make_full (P := Try.prog) w w.heap.size 43 _ i _ 1 Try.underlying43 hi1 hi2 hi3 .i64 .i64 n (by rw [hi4]; omega) (by unfold maxLen; omega) (Nat.le_refl _)
  refine ⟨w', hrun, OwnW.of g1 ?_, (Below.refl _ w).grown g2 (Nat.le_refl _) (fun _ hk => by cases hk)⟩
  rw [Nat.mul_one, show (Value.int IntKind.u64 0).cells = #[Value.int IntKind.u64 0] from rfl, toList_madeCells_one]
  simp [u64]
set_option maxRecDepth 100000 in
set_option maxHeartbeats 8000000 in
theorem Alloc20_own (tv ov sv : Value) (m : Mo) (t : Int) (M : Mo) (r hs hg : Int) (hM : M = allM m t) (hr : r = allE m t) (hhs : hs = allS m t) (hhg : hg = allG m t) (w : World) (h : Mod w tv ov sv m) :
    Calls Try.prog 14 #[.agg #[tv, ov, sv], .int .i64 t] w fun e w' => ∃ t' o' s', e = .returned (.tuple #[.agg #[t', o', s'], .agg #[.int .i64 hs, .int .i64 hg], .int .i64 r]) ∧ OwnM w' w.heap.size 48 t' o' s' M ∧ Below w.heap.size w w' := by
  have B : Below w.heap.size w w := Below.refl _ _
  have H := Lib.hid h
  have hno : r ≠ 0 → M = .nil ∧ hs = 0 ∧ hg = 0 := fun h => ⟨by rw [hM, allM, ← hr, if_neg h], by rw [hhs, allS, ← hr, if_neg h], by rw [hhg, allG, ← hr, if_neg h]⟩
  obtain ⟨c, hc⟩ : ∃ c, c = chk m := ⟨_, rfl⟩
  have CT := Lib.hid (fun w h => Check20_any tv ov sv m c hc w h)
  have lt := h.t.len
  obtain ⟨NT, hNT⟩ : ∃ N, N = m.types.length := ⟨_, rfl⟩
  rw [← hNT] at lt
  by_cases h0 : chk m = 0
  · have hc0 : c = 0 := by rw [hc, h0]
    subst hc0
    by_cases ht : 0 ≤ t ∧ t < NT
    · obtain ⟨q, rfl⟩ := Int.eq_ofNat_of_zero_le ht.1
      have n1 : ¬ (q : Int) < 0 := by omega
      have n2 : ¬ (NT : Int) ≤ (q : Int) := by omega
      have n3 : ¬ NT ≤ q := by omega
      have hq : q < m.types.length := by omega
      obtain ⟨l, hl⟩ : ∃ l, m.types[q]? = some l := ⟨_, List.getElem?_eq_getElem hq⟩
      obtain ⟨k1, k2, k3⟩ := chk_ok h0
      have hl8 : l.length ≤ 8 := (kErr_ok (k3.2.1 l (List.mem_of_getElem? hl))).1
      have CP := Lib.hid (fun w h => copied_any tv ov sv m (small_chk h0) w h)
      obtain ⟨NO, hNO⟩ : ∃ N, N = m.objs.length := ⟨_, rfl⟩
      obtain ⟨a, b, ok, m2, hHC, hway⟩ := handle_way (m := m) (n := (NO : Int)) h0 (by omega)
      have HC := Lib.hid hHC; have HW := Lib.hid hway
      have hr1 : next m.slots = none → r = 23 := fun hn => by rw [hr, allE, if_pos h0, if_pos (by omega), if_pos hn]
      have hr2 : ∀ k, next m.slots = some k → NO = 960 → r = 4 := fun k hn h9 => by rw [hr, allE, if_pos h0, if_pos (by omega), if_neg (by rw [hn]; exact fun e => by cases e), if_pos (by omega)]
      have hr3 : ∀ k, next m.slots = some k → ¬ NO = 960 → r = 0 := fun k hn h9 => by rw [hr, allE, if_pos h0, if_pos (by omega), if_neg (by rw [hn]; exact fun e => by cases e), if_neg (by omega)]
      have hyes : r = 0 → M = ⟨m.types, m.objs ++ [⟨(q : Int), List.replicate l.length 0⟩], givS m m.objs.length ((next m.slots).getD 0)⟩ ∧ hs = ((next m.slots).getD 0 : Nat) ∧ hg = (m.slots.getD ((next m.slots).getD 0) .none).gen + 1 := fun h => ⟨by rw [hM, allM, ← hr, if_pos h, newO]; simp [List.getD_eq_getElem?_getD, hl], by rw [hhs, allS, ← hr, if_pos h], by rw [hhg, allG, ← hr, if_pos h]⟩
      have HR1 := Lib.hid hr1; have HR2 := Lib.hid hr2; have HR3 := Lib.hid hr3; have HNO := Lib.hid hno; have HYES := Lib.hid hyes
      have HLL := Lib.hid hl; have HNN := Lib.hid hNO
      have HX960 := Lib.hid k2
      clear hr hM hhs hhg hno h0 h hHC hway hr1 hr2 hr3 hyes hc ht hq k1 k2 k3 hl hNO hNT
      go_enter Try.func14, Try.ntmps14
      go_upto_region 1 with (fail)
      refine wp_gen (fun Wv => Bx Wv (w.heap.size) (26) (#[tv, ov, sv]) ∧ Bx Wv (w.heap.size + 1) (26) (#[.slice none 0 0, .slice none 0 0, .slice none 0 0]) ∧ Bx Wv (w.heap.size + 1 + 1) (50) (#[.int .i64 0, .int .i64 0]) ∧ Below w.heap.size w Wv) ⟨((((Bx.at_ (by simp)).alloc _).alloc _)), (((Bx.at_ (by simp)).alloc _)), ((Bx.at_ (by simp))), ((((Below.refl _ w).alloc (by simp <;> omega) _).alloc (by simp <;> omega) _).alloc (by simp <;> omega) _)⟩ ?_
      rintro wa1 ⟨g1, g3, g7, b⟩
      replace B := B.trans (b.mono B.size); clear b
      have c_g1 := g1.cell; have f_g1 := g1.free; have a_g1 := fun o => (g1.alloc o).cell; have d_g1 := fun o o2 => ((g1.alloc o).alloc o2).cell; have e_g1 := fun o => (g1.alloc o).free
      have c_g3 := g3.cell; have f_g3 := g3.free; have a_g3 := fun o => (g3.alloc o).cell; have d_g3 := fun o o2 => ((g3.alloc o).alloc o2).cell; have e_g3 := fun o => (g3.alloc o).free
      have c_g7 := g7.cell; have f_g7 := g7.free; have a_g7 := fun o => (g7.alloc o).cell; have d_g7 := fun o o2 => ((g7.alloc o).alloc o2).cell; have e_g7 := fun o => (g7.alloc o).free
      go_wp2_with fail
      refine (CT.out _ (H.out.below B)).mono ?_
      rintro e wa2 ⟨rfl, b⟩
      try clear c_g1 f_g1 a_g1 d_g1 e_g1
      replace g1 := g1.below b; have c_g1 := g1.cell; have f_g1 := g1.free; have a_g1 := fun o => (g1.alloc o).cell; have d_g1 := fun o o2 => ((g1.alloc o).alloc o2).cell; have e_g1 := fun o => (g1.alloc o).free; try clear c_g3 f_g3 a_g3 d_g3 e_g3
      replace g3 := g3.below b; have c_g3 := g3.cell; have f_g3 := g3.free; have a_g3 := fun o => (g3.alloc o).cell; have d_g3 := fun o o2 => ((g3.alloc o).alloc o2).cell; have e_g3 := fun o => (g3.alloc o).free; try clear c_g7 f_g7 a_g7 d_g7 e_g7
      replace g7 := g7.below b; have c_g7 := g7.cell; have f_g7 := g7.free; have a_g7 := fun o => (g7.alloc o).cell; have d_g7 := fun o o2 => ((g7.alloc o).alloc o2).cell; have e_g7 := fun o => (g7.alloc o).free; replace B := B.trans (b.mono B.size); clear b
      have hz1 := B.size; have hp7 := g7.lt
      go_wp2_with fail
      refine (CP.out _ (H.out.below B)).mono ?_
      rintro e wa3 ⟨t', o', s', rfl, om, b⟩
      try clear c_g1 f_g1 a_g1 d_g1 e_g1
      replace g1 := g1.below b; have c_g1 := g1.cell; have f_g1 := g1.free; have a_g1 := fun o => (g1.alloc o).cell; have d_g1 := fun o o2 => ((g1.alloc o).alloc o2).cell; have e_g1 := fun o => (g1.alloc o).free; try clear c_g3 f_g3 a_g3 d_g3 e_g3
      replace g3 := g3.below b; have c_g3 := g3.cell; have f_g3 := g3.free; have a_g3 := fun o => (g3.alloc o).cell; have d_g3 := fun o o2 => ((g3.alloc o).alloc o2).cell; have e_g3 := fun o => (g3.alloc o).free; try clear c_g7 f_g7 a_g7 d_g7 e_g7
      replace g7 := g7.below b; have c_g7 := g7.cell; have f_g7 := g7.free; have a_g7 := fun o => (g7.alloc o).cell; have d_g7 := fun o o2 => ((g7.alloc o).alloc o2).cell; have e_g7 := fun o => (g7.alloc o).free; replace B := B.trans (b.mono B.size); clear b
      replace om : OwnM _ w.heap.size 48 t' o' s' m := OwnM.mono om hz1
      obtain ⟨⟨tA, tn, tc, rfl⟩, ⟨oA, on, oc, rfl⟩, ⟨sA, sn, sc, rfl⟩⟩ := om.forms
      have lo := om.rd.o.len
      rw [← HNN.out] at lo
      have hpc := g7.lt
      go_upto_region 7 with (fail)
      refine wp_gen (fun Wv => Bx Wv (wa3.heap.size) (26) (#[.slice tA tn tc, .slice oA on oc, .slice sA sn sc]) ∧ Below wa3.heap.size wa3 Wv) ⟨((Bx.at_ (by simp))), ((Below.refl _ wa3).alloc (by simp <;> omega) _)⟩ ?_
      rintro wa4 ⟨g4, b⟩
      try clear c_g1 f_g1 a_g1 d_g1 e_g1
      replace g1 := g1.below b; have c_g1 := g1.cell; have f_g1 := g1.free; have a_g1 := fun o => (g1.alloc o).cell; have d_g1 := fun o o2 => ((g1.alloc o).alloc o2).cell; have e_g1 := fun o => (g1.alloc o).free; try clear c_g3 f_g3 a_g3 d_g3 e_g3
      replace g3 := g3.below b; have c_g3 := g3.cell; have f_g3 := g3.free; have a_g3 := fun o => (g3.alloc o).cell; have d_g3 := fun o o2 => ((g3.alloc o).alloc o2).cell; have e_g3 := fun o => (g3.alloc o).free; try clear c_g7 f_g7 a_g7 d_g7 e_g7
      replace g7 := g7.below b; have c_g7 := g7.cell; have f_g7 := g7.free; have a_g7 := fun o => (g7.alloc o).cell; have d_g7 := fun o o2 => ((g7.alloc o).alloc o2).cell; have e_g7 := fun o => (g7.alloc o).free; replace om := om.below b; replace B := B.trans (b.mono B.size); clear b
      have c_g4 := g4.cell; have f_g4 := g4.free; have a_g4 := fun o => (g4.alloc o).cell; have d_g4 := fun o o2 => ((g4.alloc o).alloc o2).cell; have e_g4 := fun o => (g4.alloc o).free
      go_wp2_with fail
      have hs1 := own_not_bx om.s g1 (by decide); have hs3 := own_not_bx om.s g3 (by decide); have hs7 := own_not_bx om.s g7 (by decide); have hs4 := own_not_bx om.s g4 (by decide)
      refine (HC.out _ _ _ w.heap.size _ om B.size).mono ?_
      rintro e w5 ⟨rfl, om2, B2, K⟩
      replace g1 := g1.keep K hs1; replace g3 := g3.keep K hs3; replace g7 := g7.keep K hs7; replace g4 := g4.keep K hs4
      replace B := B.trans B2
      clear om B2 K hs1 hs3 hs7 hs4 c_g1 f_g1 a_g1 d_g1 e_g1 c_g3 f_g3 a_g3 d_g3 e_g3 c_g7 f_g7 a_g7 d_g7 e_g7 c_g4 f_g4 a_g4 d_g4 e_g4
      have c_g1 := g1.cell; have c_g3 := g3.cell; have f_g3 := g3.free; have c_g7 := g7.cell; have f_g7 := g7.free; have c_g4 := g4.cell
      have om := om2
      clear om2
      have hp34 := g4.lt
      go_upto_region 8 with (fail)
      refine wp_gen (fun Wv => Bx Wv (w5.heap.size) (50) (#[.int .i64 a, .int .i64 b]) ∧ Below w5.heap.size w5 Wv) ⟨((Bx.at_ (by simp))), ((Below.refl _ w5).alloc (by simp <;> omega) _)⟩ ?_
      rintro wa5 ⟨g9, b⟩
      try clear c_g1 f_g1 a_g1 d_g1 e_g1
      replace g1 := g1.below b; have c_g1 := g1.cell; have f_g1 := g1.free; have a_g1 := fun o => (g1.alloc o).cell; have d_g1 := fun o o2 => ((g1.alloc o).alloc o2).cell; have e_g1 := fun o => (g1.alloc o).free; try clear c_g3 f_g3 a_g3 d_g3 e_g3
      replace g3 := g3.below b; have c_g3 := g3.cell; have f_g3 := g3.free; have a_g3 := fun o => (g3.alloc o).cell; have d_g3 := fun o o2 => ((g3.alloc o).alloc o2).cell; have e_g3 := fun o => (g3.alloc o).free; try clear c_g7 f_g7 a_g7 d_g7 e_g7
      replace g7 := g7.below b; have c_g7 := g7.cell; have f_g7 := g7.free; have a_g7 := fun o => (g7.alloc o).cell; have d_g7 := fun o o2 => ((g7.alloc o).alloc o2).cell; have e_g7 := fun o => (g7.alloc o).free; try clear c_g4 f_g4 a_g4 d_g4 e_g4
      replace g4 := g4.below b; have c_g4 := g4.cell; have f_g4 := g4.free; have a_g4 := fun o => (g4.alloc o).cell; have d_g4 := fun o o2 => ((g4.alloc o).alloc o2).cell; have e_g4 := fun o => (g4.alloc o).free; replace om := om.below b; replace B := B.trans (b.mono B.size); clear b
      have c_g9 := g9.cell; have f_g9 := g9.free; have a_g9 := fun o => (g9.alloc o).cell; have d_g9 := fun o o2 => ((g9.alloc o).alloc o2).cell; have e_g9 := fun o => (g9.alloc o).free
      cases ok
      · have hn : next m.slots = none := by
          rcases HW.out with ⟨_, h⟩ | ⟨h, _⟩
          · exact h
          · cases h
        obtain rfl : r = 23 := HR1.out hn
        obtain ⟨rfl, rfl, rfl⟩ := HNO.out (by decide)
        clear om
        go_wp2
        refine bodyPost_ret (v := .tuple #[.agg #[.slice none 0 0, .slice none 0 0, .slice none 0 0], .agg #[.int .i64 0, .int .i64 0], .int .i64 23]) (by simp [results, Try.results14, go_sem, c_g3, f_g3, c_g7, f_g7]) rfl ?_
        refine ⟨_, _, _, rfl, OwnM.nil _ _, ?_⟩
        (repeat (first | refine Below.setCell ?_ (by first | exact Nat.le_refl _ | (simp <;> omega)) _ | refine Below.alloc ?_ (by first | exact B.size | (have := B.size; simp <;> omega)) _)); exact B
      · obtain ⟨k, s, hnx, hsk, ea, eb, em⟩ : ∃ k s, next m.slots = some k ∧ m.slots[k]? = some s ∧ a = (k : Int) ∧ b = s.gen + 1 ∧ m2 = ⟨m.types, m.objs, m.slots.set k ⟨s.gen + 1, true, (NO : Int)⟩⟩ := by
          rcases HW.out with ⟨h, _⟩ | ⟨_, h⟩
          · cases h
          · exact h
        by_cases h9 : NO = 960
        · obtain rfl : r = 4 := HR2.out k hnx h9
          obtain ⟨rfl, rfl, rfl⟩ := HNO.out (by decide)
          have q9 : ((NO : Int) == 960) = true := by rw [beq_iff_eq]; omega
          clear om
          go_wp2
          refine bodyPost_ret (v := .tuple #[.agg #[.slice none 0 0, .slice none 0 0, .slice none 0 0], .agg #[.int .i64 0, .int .i64 0], .int .i64 4]) (by simp [results, Try.results14, go_sem, c_g3, f_g3, c_g7, f_g7]) rfl ?_
          refine ⟨_, _, _, rfl, OwnM.nil _ _, ?_⟩
          (repeat (first | refine Below.setCell ?_ (by first | exact Nat.le_refl _ | (simp <;> omega)) _ | refine Below.alloc ?_ (by first | exact B.size | (have := B.size; simp <;> omega)) _)); exact B
        · obtain rfl : r = 0 := HR3.out k hnx h9
          have q9 : ((NO : Int) == 960) = false := by rw [beq_eq_false_iff_ne]; omega
          obtain ⟨e1, e2, e3⟩ := HYES.out rfl
          rw [hnx] at e1 e2 e3
          have hgd : m.slots.getD k .none = s := by simp [List.getD_eq_getElem?_getD, hsk]
          have hMM : M = ⟨m2.types, m2.objs ++ [⟨(q : Int), List.replicate l.length 0⟩], m2.slots⟩ := by
            rw [e1, em, ← HNN.out]
            show (⟨m.types, _, m.slots.set k ⟨(m.slots.getD k .none).gen + 1, true, _⟩⟩ : Mo) = _
            rw [hgd]
          have hha : hs = a := by rw [e2, ea]; rfl
          have hhb : hg = b := by rw [e3, eb]; show (m.slots.getD k .none).gen + 1 = _; rw [hgd]
          have hT2 : m2.types[q]? = some l := by rw [em]; exact HLL.out
          have hO2 : m2.objs.length = NO := by rw [em]; exact HNN.out.symm
          subst hha; subst hhb
          have HMM := Lib.hid hMM; have HT2 := Lib.hid hT2; have HO2 := Lib.hid hO2
          have hNO : NO < 960 := by have : m.objs.length ≤ 960 := HX960.out; have := HNN.out; omega
          clear e1 e2 e3 ea eb em hgd hnx hsk hMM hT2 hO2 h9
          go_upto_region 12 with (fail)
          have h59 := g9.lt
          have hB := B.size
          obtain ⟨W1, r1, oy, b1⟩ := run_make_words (w := wa5.drew) l.length (by omega)
          replace r1 : (Instr.makeSlice 43 (.int .i64 (l.length : Int)) (.int .i64 (l.length : Int))).run Try.prog wa5.drew = .ok (.slice (some ⟨wa5.heap.size, 0, none⟩) l.length l.length) W1 := r1
          replace oy : OwnW W1 wa5.heap.size 46 (.slice (some ⟨wa5.heap.size, 0, none⟩) l.length l.length) (List.replicate l.length 0) := oy
          replace b1 : Below wa5.heap.size wa5 W1 := (Below.refl _ wa5).drew.trans b1
          obtain ⟨ad, yr, it, mad, lyr, had⟩ := om.t.at1 HT2.out
          obtain ⟨tvs, t1, t2, t4⟩ := om.t
          obtain ⟨vs, z1, z2, z4, z5⟩ := om.o
          have hz := b1.size
          obtain ⟨v, W3, r3, o3, gr3⟩ := run_append_rd (P := Try.prog) (w := W1.alloc (.cells #[i64 (q : Int), .slice (some ⟨wa5.heap.size, 0, none⟩) l.length l.length] 45)) (ty := 23) (B := w.heap.size) Try.underlying23 info_obj rfl (by omega) (own_below z2 (b1.alloc hz _)) lit_obj (one_obj rfl) (by have := HO2.out; omega) (by have := HO2.out; omega) (by simp; omega)
          have hs9 := own_not_bx z2 g9 (by decide); have hs7 := own_not_bx z2 g7 (by decide)
          have MM := Lib.hid (copyO_mem (o := ⟨(q : Int), List.replicate l.length 0⟩) (a := w.heap.size) (b := w.heap.size + 1) (p := wa3.heap.size) z1 z2 z4 z5 oy b1 o3 gr3 g1 g3 g4 om.t om.s B hB (by omega) (by omega) (by omega) g9 hs9 (by omega))
          have b3 := b1.alloc hz (.cells #[i64 (q : Int), .slice (some ⟨wa5.heap.size, 0, none⟩) l.length l.length] 45)
          have z2' := own_below z2 b3
          have q43 : Bx W3 wa3.heap.size 26 #[.slice tA tn tc, .slice oA on oc, .slice sA sn sc] := Bx.grown (g4.below b3) gr3 (own_not_bx z2' (g4.below b3) (by decide))
          have q7 : Bx (W3.setCell ⟨wa3.heap.size, 1, none⟩ v) (w.heap.size + 1 + 1) 50 #[.int .i64 0, .int .i64 0] := ((g7.below b3).grown gr3 hs7).far (p := ⟨wa3.heap.size, 1, none⟩) (by show w.heap.size + 1 + 1 ≠ wa3.heap.size; omega) v
          have hadO : some ad.block ≠ (Value.slice oA on oc).ownBlock := by
            have := own_unlike t2 z2 (by decide)
            rw [had] at this
            rcases this with h | h
            · cases h
            · exact h
          have hadP : ad.block ≠ wa3.heap.size := by
            have := ne_of_or (own_not_bx t2 g4 (by decide))
            rw [had] at this
            exact fun e => this (by rw [e])
          have m3 : W3.cell? ad = some yr := gr3.cell (cell_later b3 mad) hadO
          obtain ⟨vA, vn, vc, rfl⟩ : ∃ A n c, v = .slice A n c := by obtain ⟨A, c, e⟩ := own_form' o3; exact ⟨A, _, c, e⟩
          have AL : ∀ d, d ≤ 5 → ((wsO wa5 wa3.heap.size (q : Int) ⟨.slice (some ⟨wa5.heap.size, 0, none⟩) l.length l.length, W1, .slice vA vn vc, W3⟩) d).cell? ⟨wa3.heap.size, 0, none⟩ = some (.slice tA tn tc) ∧ ((wsO wa5 wa3.heap.size (q : Int) ⟨.slice (some ⟨wa5.heap.size, 0, none⟩) l.length l.length, W1, .slice vA vn vc, W3⟩) d).cell? ad = some yr := by
            intro d hd
            rcases d with _ | _ | _ | _ | _ | d
            · exact ⟨g4.cell 0, mad⟩
            · exact ⟨(g4.below b1).cell 0, cell_later b1 mad⟩
            · exact ⟨(g4.below b1).cell 0, cell_later b1 mad⟩
            · exact ⟨(g4.below b3).cell 0, cell_later b3 mad⟩
            · exact ⟨q43.cell 0, m3⟩
            · exact ⟨MM.out.2.2.2.2.1.cell 0, cell_far m3 hadP⟩
          have ca := fun x : FXN (FL [9, 10, 11, 12, 14] (wsO wa5 wa3.heap.size (q : Int) ⟨.slice (some ⟨wa5.heap.size, 0, none⟩) l.length l.length, W1, .slice vA vn vc, W3⟩) 1 3) => (FL.all (ks := [9, 10, 11, 12, 14]) (Ws := (wsO wa5 wa3.heap.size (q : Int) ⟨.slice (some ⟨wa5.heap.size, 0, none⟩) l.length l.length, W1, .slice vA vn vc, W3⟩)) (p := fun W => W.cell? ⟨wa3.heap.size, 0, none⟩ = some (.slice tA tn tc) ∧ W.cell? ad = some yr) AL x).1
          have cb := fun x : FXN (FL [9, 10, 11, 12, 14] (wsO wa5 wa3.heap.size (q : Int) ⟨.slice (some ⟨wa5.heap.size, 0, none⟩) l.length l.length, W1, .slice vA vn vc, W3⟩) 1 3) => (FL.all (ks := [9, 10, 11, 12, 14]) (Ws := (wsO wa5 wa3.heap.size (q : Int) ⟨.slice (some ⟨wa5.heap.size, 0, none⟩) l.length l.length, W1, .slice vA vn vc, W3⟩)) (p := fun W => W.cell? ⟨wa3.heap.size, 0, none⟩ = some (.slice tA tn tc) ∧ W.cell? ad = some yr) AL x).2
          have p0 := g4.cell 1; have p1 := (g4.below b1).cell 1; have p3 := (g4.below b3).cell 1
          haveI : Nonempty (FXN (FL [9, 10, 11, 12, 14] (wsO wa5 wa3.heap.size (q : Int) ⟨.slice (some ⟨wa5.heap.size, 0, none⟩) l.length l.length, W1, .slice vA vn vc, W3⟩) 1 3)) := ⟨⟨_, _, FL.start⟩⟩
          clear c_g1 f_g1 a_g1 d_g1 e_g1 c_g3 f_g3 a_g3 d_g3 e_g3 c_g7 f_g7 a_g7 d_g7 e_g7 c_g4 f_g4 a_g4 d_g4 e_g4 c_g9 f_g9 a_g9 d_g9 e_g9
          refine wp_region_N (FL [9, 10, 11, 12, 14] (wsO wa5 wa3.heap.size (q : Int) ⟨.slice (some ⟨wa5.heap.size, 0, none⟩) l.length l.length, W1, .slice vA vn vc, W3⟩) 1 3) [1, 9, 10, 11, 12, 14] FL.dep (by kernel_rfl) (by kernel_rfl) (by kernel_rfl) FL.start ?_
          refine wpN_read FL.dep rfl (by decide) ?_; go_big_quiet_step (fail); refine wpQuiet_nil ?_
          refine wpN_step FL.dep rfl (by rfl) (v := .slice oA on oc) [] rfl (fun f W hF h0 _ => ?_) ?_
          · obtain ⟨⟨d, hd, hd2, rfl⟩, hF'⟩ := FL.read (by decide) hF h0
            refine ⟨_, ?_, hF'⟩
            have hc : ((wsO wa5 wa3.heap.size (q : Int) ⟨.slice (some ⟨wa5.heap.size, 0, none⟩) l.length l.length, W1, .slice vA vn vc, W3⟩) d).cell? ⟨wa3.heap.size, 1, none⟩ = some (.slice oA on oc) := by
              rcases d with _ | _ | _ | _ | d
              · exact p0
              · exact p1
              · exact p1
              · exact p3
              · omega
            simp [execOp, go_sem, hc]
          simp only [Act.put, List.setIfInBounds_toArray, List.set_cons_zero, List.set_cons_succ]
          iterate 6 (refine wpN_read FL.dep rfl (by decide) ?_; go_big_quiet_step (fail); refine wpQuiet_nil ?_)
          refine wpN_len FL.dep rfl (by decide) rfl (fun W => lyr _ W) ?_
          simp only [Act.put, List.setIfInBounds_toArray, List.set_cons_zero, List.set_cons_succ]
          refine wpN_step FL.dep rfl (by rfl) (v := .slice (some ⟨wa5.heap.size, 0, none⟩) l.length l.length) [] (by kernel_rfl) (fun f W hF h0 h1 => ?_) ?_
          · obtain ⟨rfl, h2⟩ := FL.step (i := 0) rfl (by decide) hF h0 (by intro p hp; omega) (by omega)
            exact ⟨_, by simp [execOp, Act.eval, wsO, r1], h2⟩
          simp only [Act.put, List.setIfInBounds_toArray, List.set_cons_zero, List.set_cons_succ]
          refine wpN_step FL.dep rfl (by rfl) (v := .agg #[i64 (q : Int), .slice (some ⟨wa5.heap.size, 0, none⟩) l.length l.length]) [9] (by kernel_rfl) (fun f W hF h0 h1 => ?_) ?_
          · obtain ⟨rfl, h2⟩ := FL.step (i := 1) rfl (by decide) hF h0 (FL.prev (p := 0) (q := 9) rfl (h1 9 (by simp))) (by omega)
            exact ⟨_, by simp [execOp, go_sem, wsO, i64], h2⟩
          simp only [Act.put, List.setIfInBounds_toArray, List.set_cons_zero, List.set_cons_succ]
          refine wpN_step FL.dep rfl (by rfl) (v := .slice (some ⟨W1.heap.size, 0, none⟩) 1 1) [10] (by kernel_rfl) (fun f W hF h0 h1 => ?_) ?_
          · obtain ⟨rfl, h2⟩ := FL.step (i := 2) rfl (by decide) hF h0 (FL.prev (p := 1) (q := 10) rfl (h1 10 (by simp))) (by omega)
            exact ⟨_, by simp [execOp, go_sem, wsO, i64], h2⟩
          simp only [Act.put, List.setIfInBounds_toArray, List.set_cons_zero, List.set_cons_succ]
          refine wpN_step FL.dep rfl (by rfl) (v := .slice vA vn vc) [11, 1] (by kernel_rfl) (fun f W hF h0 h1 => ?_) ?_
          · obtain ⟨rfl, h2⟩ := FL.step (i := 3) rfl (by decide) hF h0 (FL.prev (p := 2) (q := 11) rfl (h1 11 (by simp))) (fun _ => h1 1 (by simp))
            exact ⟨_, by simp [execOp, resolve, invoke, builtin, Act.eval, wsO, r3], h2⟩
          simp only [Act.put, List.setIfInBounds_toArray, List.set_cons_zero, List.set_cons_succ]
          refine wpN_read FL.dep rfl (by decide) ?_; go_big_quiet_step (fail); refine wpQuiet_nil ?_
          refine wpN_storeD FL.dep rfl 23 (.tmp 62) (.tmp 61) rfl (by rfl) (p := .pointer (some ⟨wa3.heap.size, 1, none⟩)) (u := .slice vA vn vc) (by rfl) (by rfl) [12] (by kernel_rfl) (fun f W hF h0 h1 => ?_) ?_
          · obtain ⟨rfl, h2⟩ := FL.step (i := 4) rfl (by decide) hF h0 (FL.prev (p := 3) (q := 12) rfl (h1 12 (by simp))) (by omega)
            refine ⟨_, ?_, h2⟩
            have hc := MM.out.1.1; have hf := MM.out.1.2
            simp [go_sem, wsO, hc, hf]
          simp only [Act.put]
          show ∀ w', _ → _
          intro w' hw'
          obtain rfl := FL.done hw'
          have HM := Lib.hid (And.intro MM.out.2 q7)
          clear this ca cb AL MM q7 q43 m3 p0 p1 p3 om B g1 g3 g7 g4 g9 z1 z2 z4 z5 t1 t2 t4 z2' b1 b3 r1 r3 o3 gr3 oy mad hs9 hs7 hw'
          go_upto_region 13 with (fail)
          obtain ⟨⟨k1, k2, k3, k4, k5, k6, k7, _, k9⟩, k8⟩ := HM.out
          have oM : OwnM (W3.setCell ⟨wa3.heap.size, 1, none⟩ (.slice vA vn vc)) w.heap.size 48 (.slice tA tn tc) (.slice vA vn vc) (.slice sA sn sc) M := by rw [HMM.out]; exact ⟨k5, k1, k6⟩
          refine wp_gen (fun Wv => OwnM Wv w.heap.size 48 (.slice tA tn tc) (.slice vA vn vc) (.slice sA sn sc) M ∧ Bx Wv (w.heap.size + 1) 26 #[.slice none 0 0, .slice none 0 0, .slice none 0 0] ∧ Bx Wv (w.heap.size + 1 + 1) 50 #[.int .i64 0, .int .i64 0] ∧ Bx Wv wa3.heap.size 26 #[.slice tA tn tc, .slice vA vn vc, .slice sA sn sc] ∧ Bx Wv w5.heap.size 50 #[.int .i64 hs, .int .i64 hg] ∧ Below w.heap.size w Wv) ⟨oM, k3, k8, k4, k9, k7⟩ ?_
          rintro wz ⟨om, g3, g7, g4, g9, B⟩
          clear k1 k2 k3 k4 k5 k6 k7 k8 k9 oM HM
          have START : (FTwoR w w.heap.size (.slice tA tn tc) (.slice vA vn vc) (.slice sA sn sc) M (w.heap.size + 1 + 1) wa3.heap.size w5.heap.size (w.heap.size + 1) hs hg) (fun _ => false) wz.drew := ⟨B.drew, ⟨om.t, om.o, om.s⟩, g3, g7, g4, g9⟩
          haveI : Nonempty (FXN (FTwoR w w.heap.size (.slice tA tn tc) (.slice vA vn vc) (.slice sA sn sc) M (w.heap.size + 1 + 1) wa3.heap.size w5.heap.size (w.heap.size + 1) hs hg)) := ⟨⟨_, _, START⟩⟩
          have ca := fun x : FXN (FTwoR w w.heap.size (.slice tA tn tc) (.slice vA vn vc) (.slice sA sn sc) M (w.heap.size + 1 + 1) wa3.heap.size w5.heap.size (w.heap.size + 1) hs hg) => (by obtain ⟨_, h⟩ := x.h; exact h.2.2.2.2.1 : Bx x.W wa3.heap.size 26 #[.slice tA tn tc, .slice vA vn vc, .slice sA sn sc]).cell
          have cb := fun x : FXN (FTwoR w w.heap.size (.slice tA tn tc) (.slice vA vn vc) (.slice sA sn sc) M (w.heap.size + 1 + 1) wa3.heap.size w5.heap.size (w.heap.size + 1) hs hg) => (by obtain ⟨_, h⟩ := x.h; exact h.2.2.2.2.2 : Bx x.W w5.heap.size 50 #[.int .i64 hs, .int .i64 hg]).cell
          clear om B g3 g7 g4 g9
          refine wp_region_N (FTwoR w w.heap.size (.slice tA tn tc) (.slice vA vn vc) (.slice sA sn sc) M (w.heap.size + 1 + 1) wa3.heap.size w5.heap.size (w.heap.size + 1) hs hg) [2, 3] FTwoR.dep (by kernel_rfl) (by kernel_rfl) (by kernel_rfl) START ?_
          iterate 2 (refine wpN_read FTwoR.dep rfl (by decide) ?_; go_big_quiet_step (fail); refine wpQuiet_nil ?_)
          refine wpN_storeD FTwoR.dep rfl 26 (.tmp 4) (.tmp 63) rfl (by rfl) (p := .pointer (some ⟨w.heap.size + 1, 0, none⟩)) (u := .agg #[.slice tA tn tc, .slice vA vn vc, .slice sA sn sc]) (by rfl) (by rfl) [] (by kernel_rfl) (fun f W hF h0 h1 => ?_) ?_
          · obtain ⟨k0, k1, h2⟩ := FTwoR.store2 hF h0 (by omega) (by omega) (by omega) (by omega)
            refine ⟨_, ?_, h2⟩
            simp [go_sem, k0, k1]
          simp only [Act.put, List.setIfInBounds_toArray, List.set_cons_zero, List.set_cons_succ]
          refine wpN_storeD FTwoR.dep rfl 50 (.tmp 5) (.tmp 64) rfl (by rfl) (p := .pointer (some ⟨w.heap.size + 1 + 1, 0, none⟩)) (u := .agg #[.int .i64 hs, .int .i64 hg]) (by rfl) (by rfl) [] (by kernel_rfl) (fun f W hF h0 h1 => ?_) ?_
          · obtain ⟨k0, k1, h2⟩ := FTwoR.store3 hF h0 (by omega) (by omega) (by omega) (by omega)
            refine ⟨_, ?_, h2⟩
            simp [go_sem, k0, k1]
          simp only [Act.put, List.setIfInBounds_toArray, List.set_cons_zero, List.set_cons_succ]
          iterate 1 (refine wpN_read FTwoR.dep rfl (by decide) ?_; go_big_quiet_step (fail); refine wpQuiet_nil ?_)
          show ∀ w', _ → _
          intro w' hF
          obtain ⟨B, om, g3, g7, _, _⟩ := hF
          have c3 := g3.cell; have c7 := g7.cell
          simp only [if_true] at c3 c7
          clear this ca cb START
          go_wp2
          refine bodyPost_ret (v := .tuple #[.agg #[.slice tA tn tc, .slice vA vn vc, .slice sA sn sc], .agg #[.int .i64 hs, .int .i64 hg], .int .i64 0]) (by simp [results, Try.results14, go_sem, c3, c7]) rfl ?_
          exact ⟨_, _, _, rfl, om, B⟩
    · have hr1 : r = 2 := by rw [hr, allE, if_pos h0, if_neg (by omega)]
      obtain ⟨e1, e2, e3⟩ := hno (by rw [hr1]; decide)
      have hcase : t < 0 ∨ ¬ t < 0 ∧ (NT : Int) ≤ t := by omega
      subst hr1; subst e1; subst e2; subst e3
      clear hr hM hhs hhg hno h0 h hc ht hNT
      rcases hcase with n1 | ⟨n1, n2⟩
      all_goals
        go_enter Try.func14, Try.ntmps14
        go_upto_region 1 with (fail)
        refine wp_gen (fun Wv => Bx Wv (w.heap.size) (26) (#[tv, ov, sv]) ∧ Bx Wv (w.heap.size + 1) (26) (#[.slice none 0 0, .slice none 0 0, .slice none 0 0]) ∧ Bx Wv (w.heap.size + 1 + 1) (50) (#[.int .i64 0, .int .i64 0]) ∧ Below w.heap.size w Wv) ⟨((((Bx.at_ (by simp)).alloc _).alloc _)), (((Bx.at_ (by simp)).alloc _)), ((Bx.at_ (by simp))), ((((Below.refl _ w).alloc (by simp <;> omega) _).alloc (by simp <;> omega) _).alloc (by simp <;> omega) _)⟩ ?_
        rintro wa1 ⟨g1, g3, g7, b⟩
        replace B := B.trans (b.mono B.size); clear b
        have c_g1 := g1.cell; have f_g1 := g1.free; have a_g1 := fun o => (g1.alloc o).cell; have d_g1 := fun o o2 => ((g1.alloc o).alloc o2).cell; have e_g1 := fun o => (g1.alloc o).free
        have c_g3 := g3.cell; have f_g3 := g3.free; have a_g3 := fun o => (g3.alloc o).cell; have d_g3 := fun o o2 => ((g3.alloc o).alloc o2).cell; have e_g3 := fun o => (g3.alloc o).free
        have c_g7 := g7.cell; have f_g7 := g7.free; have a_g7 := fun o => (g7.alloc o).cell; have d_g7 := fun o o2 => ((g7.alloc o).alloc o2).cell; have e_g7 := fun o => (g7.alloc o).free
        go_wp2_with fail
        refine (CT.out _ (H.out.below B)).mono ?_
        rintro e wa2 ⟨rfl, b⟩
        try clear c_g1 f_g1 a_g1 d_g1 e_g1
        replace g1 := g1.below b; have c_g1 := g1.cell; have f_g1 := g1.free; have a_g1 := fun o => (g1.alloc o).cell; have d_g1 := fun o o2 => ((g1.alloc o).alloc o2).cell; have e_g1 := fun o => (g1.alloc o).free; try clear c_g3 f_g3 a_g3 d_g3 e_g3
        replace g3 := g3.below b; have c_g3 := g3.cell; have f_g3 := g3.free; have a_g3 := fun o => (g3.alloc o).cell; have d_g3 := fun o o2 => ((g3.alloc o).alloc o2).cell; have e_g3 := fun o => (g3.alloc o).free; try clear c_g7 f_g7 a_g7 d_g7 e_g7
        replace g7 := g7.below b; have c_g7 := g7.cell; have f_g7 := g7.free; have a_g7 := fun o => (g7.alloc o).cell; have d_g7 := fun o o2 => ((g7.alloc o).alloc o2).cell; have e_g7 := fun o => (g7.alloc o).free; replace B := B.trans (b.mono B.size); clear b
        go_wp2
        refine bodyPost_ret (v := .tuple #[.agg #[.slice none 0 0, .slice none 0 0, .slice none 0 0], .agg #[.int .i64 0, .int .i64 0], .int .i64 2]) (by simp [results, Try.results14, go_sem, c_g3, f_g3, c_g7, f_g7]) rfl ?_
        refine ⟨_, _, _, rfl, OwnM.nil _ _, ?_⟩
        (repeat (first | refine Below.setCell ?_ (by first | exact Nat.le_refl _ | (simp <;> omega)) _ | refine Below.alloc ?_ (by first | exact B.size | (have := B.size; simp <;> omega)) _)); exact B
  · have hr1 : r = c := by rw [hr, allE, if_neg h0, hc]
    have hne : (c != 0) = true := by rw [bne_iff_ne, hc]; exact h0
    obtain ⟨e1, e2, e3⟩ := hno (by rw [hr1, hc]; exact h0)
    subst hr1; subst e1; subst e2; subst e3
    clear hr hM hhs hhg hno h0 h hc hNT
    go_enter Try.func14, Try.ntmps14
    go_upto_region 1 with (fail)
    refine wp_gen (fun Wv => Bx Wv (w.heap.size) (26) (#[tv, ov, sv]) ∧ Bx Wv (w.heap.size + 1) (26) (#[.slice none 0 0, .slice none 0 0, .slice none 0 0]) ∧ Bx Wv (w.heap.size + 1 + 1) (50) (#[.int .i64 0, .int .i64 0]) ∧ Below w.heap.size w Wv) ⟨((((Bx.at_ (by simp)).alloc _).alloc _)), (((Bx.at_ (by simp)).alloc _)), ((Bx.at_ (by simp))), ((((Below.refl _ w).alloc (by simp <;> omega) _).alloc (by simp <;> omega) _).alloc (by simp <;> omega) _)⟩ ?_
    rintro wa1 ⟨g1, g3, g7, b⟩
    replace B := B.trans (b.mono B.size); clear b
    have c_g1 := g1.cell; have f_g1 := g1.free; have a_g1 := fun o => (g1.alloc o).cell; have d_g1 := fun o o2 => ((g1.alloc o).alloc o2).cell; have e_g1 := fun o => (g1.alloc o).free
    have c_g3 := g3.cell; have f_g3 := g3.free; have a_g3 := fun o => (g3.alloc o).cell; have d_g3 := fun o o2 => ((g3.alloc o).alloc o2).cell; have e_g3 := fun o => (g3.alloc o).free
    have c_g7 := g7.cell; have f_g7 := g7.free; have a_g7 := fun o => (g7.alloc o).cell; have d_g7 := fun o o2 => ((g7.alloc o).alloc o2).cell; have e_g7 := fun o => (g7.alloc o).free
    go_wp2_with fail
    refine (CT.out _ (H.out.below B)).mono ?_
    rintro e wa2 ⟨rfl, b⟩
    try clear c_g1 f_g1 a_g1 d_g1 e_g1
    replace g1 := g1.below b; have c_g1 := g1.cell; have f_g1 := g1.free; have a_g1 := fun o => (g1.alloc o).cell; have d_g1 := fun o o2 => ((g1.alloc o).alloc o2).cell; have e_g1 := fun o => (g1.alloc o).free; try clear c_g3 f_g3 a_g3 d_g3 e_g3
    replace g3 := g3.below b; have c_g3 := g3.cell; have f_g3 := g3.free; have a_g3 := fun o => (g3.alloc o).cell; have d_g3 := fun o o2 => ((g3.alloc o).alloc o2).cell; have e_g3 := fun o => (g3.alloc o).free; try clear c_g7 f_g7 a_g7 d_g7 e_g7
    replace g7 := g7.below b; have c_g7 := g7.cell; have f_g7 := g7.free; have a_g7 := fun o => (g7.alloc o).cell; have d_g7 := fun o o2 => ((g7.alloc o).alloc o2).cell; have e_g7 := fun o => (g7.alloc o).free; replace B := B.trans (b.mono B.size); clear b
    go_wp2
    refine bodyPost_ret (v := .tuple #[.agg #[.slice none 0 0, .slice none 0 0, .slice none 0 0], .agg #[.int .i64 0, .int .i64 0], .int .i64 r]) (by simp [results, Try.results14, go_sem, c_g3, f_g3, c_g7, f_g7]) rfl ?_
    refine ⟨_, _, _, rfl, OwnM.nil _ _, ?_⟩
    (repeat (first | refine Below.setCell ?_ (by first | exact Nat.le_refl _ | (simp <;> omega)) _ | refine Below.alloc ?_ (by first | exact B.size | (have := B.size; simp <;> omega)) _)); exact B
theorem Alloc20_any (tv ov sv : Value) (m : Mo) (t : Int) (M : Mo) (r hs hg : Int) (hM : M = allM m t) (hr : r = allE m t) (hhs : hs = allS m t) (hhg : hg = allG m t) (w : World) (h : Mod w tv ov sv m) :
    Calls Try.prog 14 #[.agg #[tv, ov, sv], .int .i64 t] w fun e w' => ∃ t' o' s', e = .returned (.tuple #[.agg #[t', o', s'], .agg #[.int .i64 hs, .int .i64 hg], .int .i64 r]) ∧ Mod w' t' o' s' M ∧ Below w.heap.size w w' :=
  (Alloc20_own tv ov sv m t M r hs hg hM hr hhs hhg w h).mono fun e w' ⟨t', o', s', h1, h2, h3⟩ => ⟨t', o', s', h1, h2.rd, h3⟩
end Go.Proofs.Yteejianjjpdimaa
namespace Go.Proofs.Yteejianjjpdimaa
open Go.RowKit L02 L13 L18 L20
end Go.Proofs.Yteejianjjpdimaa
namespace Go.Proofs.Yteejianjjpdimaa
open Go.RowKit L02 L13 L18 L20
theorem ob_at {m : Mo} {i : Nat} {o : Ob} (h : m.objs[i]? = some o) : ob m i = o := by simp [ob, List.getD_eq_getElem?_getD, h]
end Go.Proofs.Yteejianjjpdimaa
namespace Go.Proofs.Yteejianjjpdimaa
open Go.RowKit L02 L13 L18 L20
/-- the number of a slot is stored -/
theorem OwnS.put1 {w : World} {B E g n c k : Nat} {S : List Sl} {s : Sl} (h : OwnS w B E (.slice (some ⟨g, 0, none⟩) n c) S) (hs : S[k]? = some s) (a : Int) :
    OwnS (w.setCell ⟨g, k * 3 + 2, none⟩ (.int .i64 a)) B E (.slice (some ⟨g, 0, none⟩) n c) (S.set k ⟨s.gen, s.used, a⟩) ∧
      w.grownBy (w.setCell ⟨g, k * 3 + 2, none⟩ (.int .i64 a)) (some g) ∧ B ≤ g ∧ g < w.heap.size ∧ ∀ j, w.frozen? ⟨g, j, none⟩ = false := by
  have hk : k < S.length := (List.getElem?_eq_some_iff.1 hs).1
  have hn : n = S.length := by
    obtain ⟨g', cap, cur, hv, _⟩ := own_form h (by omega)
    injection hv
  subst hn
  have h3 := World.ownsRow.stored h (k * 3 + 2) (.int .i64 a)
  have hl := h.lt g rfl
  have hsame : ∀ i : Nat, i < 3 → ∀ u, (slC s)[i]? = some u → (tabL S).set (k * 3 + i) u = tabL S := by
    intro i hi u hu
    have t0 := tabL_get S k s hs i hi
    rw [hu] at t0
    apply List.ext_getElem?
    intro j
    by_cases hj : j = k * 3 + i
    · subst hj
      rw [List.getElem?_set_self (List.getElem?_eq_some_iff.1 t0).1, t0]
    · rw [List.getElem?_set_ne (Ne.symm hj)]
  have h0 := hsame 0 (by omega) (.int .i64 s.gen) rfl
  have h1 := hsame 1 (by omega) (.bool s.used) rfl
  rw [Nat.add_zero] at h0
  refine ⟨?_, h3.2, hl.1, hl.2, fun j => h.frozenAt j⟩
  unfold OwnS
  rw [← tabL_set S k ⟨s.gen, s.used, a⟩ hk, List.length_set]
  show World.ownsRow _ _ _ _ _ _ ((((tabL S).set (k * 3) (.int .i64 s.gen)).set (k * 3 + 1) (.bool s.used)).set (k * 3 + 2) (.int .i64 a))
  rw [h0, h1]
  exact h3.1
theorem own_ne_bx {w : World} {B e sz n n' p g c : Nat} {xs : List Value} {t : TypeId} {cs : Array Value} (h : w.ownsRow B e sz (.slice (some ⟨g, 0, none⟩) n c) n' xs) (hg : Bx w p t cs) (hne : e ≠ t) : g ≠ p := by
  rintro rfl
  rcases own_not_bx h hg hne with h | h
  · cases h
  · exact h rfl
end Go.Proofs.Yteejianjjpdimaa
namespace Go.Proofs.Yteejianjjpdimaa
open Go.RowKit L02 L13 L18 L20
/-- an index of another kind -/
theorem Rd.ixU {w : World} {sz n : Nat} {v : Value} {xs : List Value} {t e : TypeId} (h : Rd w sz v n xs) (ht : Try.prog.underlying t = some (.slice e)) (hi : (Try.prog.info? e).map (·.size) = some sz) {k : Nat} (hk : k < n) (W : World) :
    (Instr.indexAt t v (.int .u64 (k : Int))).run Try.prog W = .ok (.pointer (some (cellAt v (k * sz)))) W := by
  obtain ⟨i, hi', rfl⟩ := Option.map_eq_some_iff.1 hi
  clear hi
  obtain ⟨A, c, rfl, h1, _, h2, h3, h4⟩ := h
  cases A with
  | none => have := h3 rfl; omega
  | some ad =>
    obtain ⟨b, o, s⟩ := ad
    have := (h4 (by omega) _ rfl).1
    simp at this; subst this
    simp [Instr.indexAt, run_underlying ht, asIntOf, hk, sizeOf, typeInfo, hi', cellAt, Addr.add]
theorem Ints.atU {w : World} {v : Value} {l : List Int} (h : Ints w v l) {k : Nat} (hk : k < l.length) :
    ∃ ad x, (∀ W, (Instr.indexAt 30 v (.int .u64 (k : Int))).run Try.prog W = .ok (.pointer (some ad)) W) ∧ w.cell? ad = some (.int .i64 x) ∧ Hid (l[k]? = some x) :=
  ⟨_, l[k], fun W => Rd.ixU h Try.underlying30 one_int hk W, by rw [Nat.mul_one]; exact Rd.cell h (by simp [hk]; rfl), by unfold Hid; simp [hk]⟩
end Go.Proofs.Yteejianjjpdimaa
