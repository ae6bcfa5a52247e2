/- Contracts of the functions that the laws 'F' reach, part 7. No condition. -/
import Derived.Test.YtiiilaojllmmiaaMFf
set_option linter.unusedVariables false
set_option linter.unusedSimpArgs false
namespace Go.Proofs.Ytiiilaojllmmiaa
open Go.RowKit L01 L02 L18
def entV (a : Int) (x : UInt64) : Value := .agg #[.int .i64 a, .int .u64 x.toNat]
theorem index_tab {L : List Sl} {k : Nat} {s : Sl} (hL : L.length = 16) (V : Array Value) (hV : V = tab L) (h : L[k]? = some s) (W : World) : (Instr.index 116 (.agg V) (.int .i64 (k : Int))).run Try.prog W = .ok (.agg #[.int .i64 s.gen, .bool s.used, .int .i64 s.at_]) W := by
  subst hV
  have hk : k < 16 := by have := (List.getElem?_eq_some_iff.1 h).1; omega
  obtain ⟨t0, t1, t2⟩ := tab_get3 h
  obtain ⟨i, hi, hsz⟩ := Option.map_eq_some_iff.1 size_slot
  have he : (tab L).extract (k * 3) (k * 3 + 3) = #[.int .i64 s.gen, .bool s.used, .int .i64 s.at_] := by
    apply Array.ext_getElem?
    intro j
    rw [Array.getElem?_extract]
    have hz : (tab L).size = 48 := by rw [tab_size, hL]
    match j with
    | 0 => rw [if_pos (by rw [hz]; omega)]; exact t0
    | 1 => rw [if_pos (by rw [hz]; omega)]; exact t1
    | 2 => rw [if_pos (by rw [hz]; omega)]; exact t2
    | j + 3 => rw [if_neg (by rw [hz]; omega)]; simp
  simp [Instr.index, run_underlying Try.underlying116, asIntOf, hk, sizeOf, typeInfo, go_sem, hi, hsz]
  exact he
set_option maxRecDepth 100000 in
set_option maxHeartbeats 1000000 in
theorem New18_ok (v : Value) (l : List UInt64) (a : Int) (w : World) (h : Words w v l) (h0 : openErr l = 0) (ha : 128 ≤ a ∧ a < 2048) :
    Calls Try.prog 69 #[v, .int .i64 a] w fun e w' => e = .returned (.tuple #[.agg #[.int .i64 (newSlot l a), .int .i64 (newGen l a)], entV (newAt l a) (newVal l a), .int .i64 (L18.newErr l a)]) ∧ Below w.heap.size w w' := by
  have B : Below w.heap.size w w := Below.refl _ _
  obtain ⟨V, hV⟩ : ∃ V, V = tab (tabOf l) := ⟨_, rfl⟩
  have OT := fun w h => open_any v l V hV 0 h0.symm w h
  have HOT := Lib.hid OT; have H := Lib.hid h; clear OT h
  have hVs : V.size = 48 := by rw [hV]; exact tabOf_size l
  have hV1 : V.all (·.oneCell') = true := by rw [hV]; exact tab_one _
  have HVs := Lib.hid hVs; have HV1 := Lib.hid hV1
  clear hVs hV1
  rw [tabOf_ok h0] at hV
  have HV := Lib.hid hV; have H0 := Lib.hid h0; have HA := Lib.hid ha
  obtain ⟨a1, a2⟩ := ha
  clear hV h0
  go_enter Try.func69, Try.ntmps69
  go_upto_region 1 with (fail)
  refine wp_gen (fun Wv => Bx Wv (w.heap.size) (24) (#[.int .i64 0, .int .i64 0]) ∧ Bx Wv (w.heap.size + 1) (47) (#[.int .i64 0, .int .u64 0]) ∧ Below w.heap.size w Wv) ⟨(((Bx.at_ (by simp)).alloc _)), ((Bx.at_ (by simp))), (((Below.refl _ w).alloc (by simp <;> omega) _).alloc (by simp <;> omega) _)⟩ ?_
  rintro w' ⟨g4, g5, b⟩
  replace B := B.trans (b.mono B.size); clear b
  have c_g4 := g4.cell; have f_g4 := g4.free; have a_g4 := fun o => (g4.alloc o).cell; have d_g4 := fun o o2 => ((g4.alloc o).alloc o2).cell; have e_g4 := fun o => (g4.alloc o).free
  have c_g5 := g5.cell; have f_g5 := g5.free; have a_g5 := fun o => (g5.alloc o).cell; have d_g5 := fun o o2 => ((g5.alloc o).alloc o2).cell; have e_g5 := fun o => (g5.alloc o).free
  go_wp2_with fail
  refine (HOT.out _ (H.out.below B)).mono ?_
  rintro e w' ⟨rfl, b⟩
  try clear c_g4 f_g4 a_g4 d_g4 e_g4
  replace g4 := g4.below b; have c_g4 := g4.cell; have f_g4 := g4.free; have a_g4 := fun o => (g4.alloc o).cell; have d_g4 := fun o o2 => ((g4.alloc o).alloc o2).cell; have e_g4 := fun o => (g4.alloc o).free; try clear c_g5 f_g5 a_g5 d_g5 e_g5
  replace g5 := g5.below b; have c_g5 := g5.cell; have f_g5 := g5.free; have a_g5 := fun o => (g5.alloc o).cell; have d_g5 := fun o o2 => ((g5.alloc o).alloc o2).cell; have e_g5 := fun o => (g5.alloc o).free; replace B := B.trans (b.mono B.size); clear b
  go_wp2_with (first
    | ((with_reducible refine at_store 116 7 15 ?_); refine wpList_storeNew rfl _ _ _ rfl rfl V rfl rfl (by rw [HVs.out]; exact size_table) (by rw [HVs.out]; rfl) HV1.out ?_; intro W q1 b1)
    | ((with_reducible refine at_load 30 116 7 ?_); refine wpList_loadRow rfl _ _ rfl _ rfl q1 _ Try.underlying116 rfl (by rw [HVs.out]; exact size_table) ?_))
  replace g4 := g4.below b1; replace g5 := g5.below b1; replace B := B.trans (b1.mono B.size)
  have HG := Lib.hid (And.intro g4 g5); have HB := Lib.hid B; clear q1 b1 B
  clear c_g4 f_g4 a_g4 d_g4 e_g4 c_g5 f_g5 a_g5 d_g5 e_g5
  clear g4 g5
  go_loopw [31] (fun i wr => ∃ k : Nat, k ≤ 16 ∧ i = .int .i64 k ∧ Hid ((Bx wr w.heap.size 24 #[.int .i64 0, .int .i64 0] ∧ Bx wr (w.heap.size + 1) 47 #[.int .i64 0, .int .u64 0]) ∧ nextFrom ((slots l).drop k) k = next (slots l)) ∧ Below w.heap.size w wr) (fun i _ => 16 - (intOf i).toNat)
  case atStart => exact ⟨0, by omega, rfl, Lib.hid ⟨HG.out, rfl⟩, HB.out⟩
  case round =>
    clear HG HB
    obtain ⟨k, hk, rfl, hh, B⟩ := hrel
    by_cases hlt : k < 16
    · obtain ⟨s, hs⟩ : ∃ s, (slots l)[k]? = some s := ⟨_, List.getElem?_eq_getElem (by rw [slots16 H0.out]; exact hlt)⟩
      have hix := index_tab (slots16 H0.out) V HV.out hs
      obtain ⟨⟨g4, g5⟩, hn⟩ := hh.out
      rw [List.drop_eq_getElem_cons (by rw [slots16 H0.out]; exact hlt)] at hn
      have HS := Lib.hid hs; have HN := Lib.hid hn; clear hs hn hh
      obtain ⟨gn, us, at_⟩ := s
      dsimp only at hix
      have hcase : (us = true ∨ us = false ∧ gn = 2147483647) ∨ (us = false ∧ (gn == 2147483647) = false) := by
        cases us
        · by_cases hg : gn = 2147483647
          · exact .inl (.inr ⟨rfl, hg⟩)
          · exact .inr ⟨rfl, by rw [beq_eq_false_iff_ne]; exact hg⟩
        · exact .inl (.inl rfl)
      have HIX := Lib.hid hix; clear hix
      rcases hcase with hcase | ⟨rfl, hne⟩
      · have hnx : nextFrom ((slots l).drop (k + 1)) (k + 1) = next (slots l) := by
          rw [← HN.out, nextFrom, if_neg]
          have e := HS.out
          rw [List.getElem?_eq_getElem (by rw [slots16 H0.out]; exact hlt)] at e
          injection e with e
          rw [e]
          rcases hcase with h | ⟨_, h⟩
          · exact fun h2 => by rw [h] at h2; exact absurd h2.1 (by simp)
          · exact fun h2 => h2.2 h
        have HNX := Lib.hid hnx; clear hnx
        have HG := Lib.hid (And.intro g4 g5); have HB := Lib.hid B; clear g4 g5 B
        have hix := HIX.out
        rcases hcase with rfl | ⟨rfl, rfl⟩
        all_goals
          go_wp2
          go_roundw
          case rel => exact ⟨k + 1, by omega, by go_num, Lib.hid ⟨⟨HG.out.1.alloc _, HG.out.2.alloc _⟩, HNX.out⟩, HB.out.alloc HB.out.size _⟩
          case measure => simp [intOf]; omega
      · have hnx : next (slots l) = some k := by
          rw [← HN.out, nextFrom, if_pos]
          have e := HS.out
          rw [List.getElem?_eq_getElem (by rw [slots16 H0.out]; exact hlt)] at e
          injection e with e
          rw [e]
          exact ⟨rfl, by simpa using hne⟩
        have hR : Right ⟨gn, false, at_⟩ := by
          have hall := H0.out
          unfold openErr at hall
          split at hall
          · split at hall
            · rename_i h2 h3
              have e := HS.out
              rw [slots, List.getElem?_map] at e
              obtain ⟨x, hx, hxe⟩ := Option.map_eq_some_iff.1 e
              rw [← hxe]; exact h3 x (List.mem_of_getElem? hx)
            · omega
          · omega
        have hR2 : Right ⟨gn + 1, true, a⟩ := ⟨by have := hR.1; simp at this ⊢; omega, by have := hR.2.1; simp at this hne ⊢; omega, by simp, fun _ => ⟨by have := hR.1; simp at this ⊢; omega, a1, a2⟩⟩
        have hg1 : 0 ≤ gn := hR.1
        have hg2 : gn < 2147483647 := by have := hR.2.1; simp at this hne; omega
        have herr : L18.newErr l a = 0 := by rw [L18.newErr, if_pos H0.out, if_pos HA.out, hnx]; rfl
        have e1 : newSlot l a = k := by rw [newSlot, if_pos herr, hnx]; rfl
        have e2 : newGen l a = gn + 1 := by rw [newGen, if_pos herr, hnx]; simp [List.getD_eq_getElem?_getD, HS.out]
        have e3 : newAt l a = 112 + k := by rw [newAt, if_pos herr, hnx]; rfl
        have e4 : newVal l a = pk ⟨gn + 1, true, a⟩ := by rw [newVal, if_pos herr, e2]
        obtain ⟨x, hx⟩ : ∃ x, x = pk ⟨gn + 1, true, a⟩ := ⟨_, rfl⟩
        have PT := fun w => pack_any ⟨gn + 1, true, a⟩ x hx hR2 w
        dsimp only at PT
        rw [← hx] at e4
        have HE := Lib.hid (And.intro herr (And.intro e1 (And.intro e2 (And.intro e3 e4)))); have HPT := Lib.hid PT
        clear hnx hR hR2 herr e1 e2 e3 e4 PT hx
        have hix := HIX.out
        have hsz := B.size
        have n4 : wr.heap.size + 1 ≠ w.heap.size := by omega
        have n5 : wr.heap.size + 1 ≠ w.heap.size + 1 := by have := g5.lt; omega
        go_wp2
        refine wp_gen (fun Wv => Bx Wv (wr.heap.size + 1) (55) (#[.int .i64 (gn + 1), .bool true, .int .i64 a]) ∧ Below wr.heap.size wr Wv) ⟨((Bx.at_ (by simp))), (((Below.refl _ wr).alloc (by simp <;> omega) _).alloc (by simp <;> omega) _)⟩ ?_
        rintro w' ⟨g11, b⟩
        try clear c_g4 f_g4 a_g4 d_g4 e_g4
        replace g4 := g4.below b; have c_g4 := g4.cell; have f_g4 := g4.free; have a_g4 := fun o => (g4.alloc o).cell; have d_g4 := fun o o2 => ((g4.alloc o).alloc o2).cell; have e_g4 := fun o => (g4.alloc o).free; try clear c_g5 f_g5 a_g5 d_g5 e_g5
        replace g5 := g5.below b; have c_g5 := g5.cell; have f_g5 := g5.free; have a_g5 := fun o => (g5.alloc o).cell; have d_g5 := fun o o2 => ((g5.alloc o).alloc o2).cell; have e_g5 := fun o => (g5.alloc o).free; replace B := B.trans (b.mono B.size); clear b
        have c_g11 := g11.cell; have f_g11 := g11.free; have a_g11 := fun o => (g11.alloc o).cell; have d_g11 := fun o o2 => ((g11.alloc o).alloc o2).cell; have e_g11 := fun o => (g11.alloc o).free
        clear hix
        have i0 := c_g11 0; have i1 := c_g11 1; have i2 := c_g11 2
        simp only [List.getElem?_toArray, List.getElem?_cons_zero, List.getElem?_cons_succ] at i0 i1 i2
        clear c_g11 f_g11 a_g11 d_g11 e_g11 c_g4 f_g4 a_g4 d_g4 e_g4 c_g5 f_g5 a_g5 d_g5 e_g5
        obtain ⟨W0, hW0⟩ : ∃ W0, W0 = w' := ⟨_, rfl⟩
        subst hW0
        have hwk : IntKind.i64.wrap (112 + (k : Int)) = 112 + (k : Int) := IntWalk.i64_in _ (by omega)
        go_region_held3 (fun Z => Z.cell? ⟨wr.heap.size + 1, 0, none⟩ = some (.int .i64 (gn + 1)) ∧ Z.cell? ⟨wr.heap.size + 1, 1, none⟩ = some (.bool true) ∧ Z.cell? ⟨wr.heap.size + 1, 2, none⟩ = some (.int .i64 a))
          (first
            | with_reducible exact ⟨j0, j1, j2⟩
            | with_reducible exact ⟨cell_far (cell_far j0 n4) n4, cell_far (cell_far j1 n4) n4, cell_far (cell_far j2 n4) n4⟩
            | with_reducible exact ⟨cell_far (cell_far (cell_far (cell_far j0 n4) n4) n5) n5, cell_far (cell_far (cell_far (cell_far j1 n4) n4) n5) n5, cell_far (cell_far (cell_far (cell_far j2 n4) n4) n5) n5⟩
            | exact ⟨i0, i1, i2⟩)
          ((go_at_call 101; (with_reducible refine (HPT.out _).mono ?_); rintro e W1 ⟨rfl, b⟩; have bb : Below W0.heap.size W0 W1 := ((Below.refl W0.heap.size W0).drew).trans b; have m11 := g11.below bb; have j0 : W1.cell? ⟨wr.heap.size + 1, 0, none⟩ = some (.int .i64 (gn + 1)) := m11.cell 0; have j1 : W1.cell? ⟨wr.heap.size + 1, 1, none⟩ = some (.bool true) := m11.cell 1; have j2 : W1.cell? ⟨wr.heap.size + 1, 2, none⟩ = some (.int .i64 a) := m11.cell 2; have m4 := g4.below bb; have m5 := g5.below bb; have k4 := m4.cell; have l4 := m4.free; have k5 := m5.cell; have l5 := m5.free))
        go_wp2
        refine bodyPost_ret (v := .tuple #[.agg #[.int .i64 k, .int .i64 (gn + 1)], .agg #[.int .i64 (112 + k), .int .u64 x.toNat], .int .i64 0]) (by simp [results, Try.results69, go_sem, k4, l4, k5, l5]) rfl ?_
        obtain ⟨e0, e1, e2, e3, e4⟩ := HE.out
        refine ⟨by rw [e0, e1, e2, e3, e4]; rfl, ?_⟩
        replace B := B.trans (bb.mono B.size)
        (repeat (first | refine Below.setCell ?_ (by first | exact Nat.le_refl _ | (simp <;> omega)) _ | refine Below.alloc ?_ (by first | exact B.size | (have := B.size; simp <;> omega)) _)); exact B
    · obtain rfl : k = 16 := by omega
      obtain ⟨⟨g4, g5⟩, hn⟩ := hh.out
      rw [List.drop_of_length_le (by rw [slots16 H0.out]; omega)] at hn
      have hnx : next (slots l) = none := hn.symm
      have herr : L18.newErr l a = 23 := by rw [L18.newErr, if_pos H0.out, if_pos HA.out, if_pos hnx]
      have e1 : newSlot l a = 0 := if_neg (by rw [herr]; omega)
      have e2 : newGen l a = 0 := if_neg (by rw [herr]; omega)
      have e3 : newAt l a = 0 := if_neg (by rw [herr]; omega)
      have e4 : newVal l a = 0 := if_neg (by rw [herr]; omega)
      have HE := Lib.hid (And.intro herr (And.intro e1 (And.intro e2 (And.intro e3 e4))))
      have k4 := g4.cell; have l4 := g4.free; have k5 := g5.cell; have l5 := g5.free
      clear hn hnx herr e1 e2 e3 e4 hh
      go_wp2
      refine bodyPost_ret (v := .tuple #[.agg #[.int .i64 0, .int .i64 0], .agg #[.int .i64 0, .int .u64 0], .int .i64 23]) (by simp [results, Try.results69, go_sem, k4, l4, k5, l5]) rfl ?_
      obtain ⟨e0, e1, e2, e3, e4⟩ := HE.out
      refine ⟨by rw [e0, e1, e2, e3, e4]; rfl, ?_⟩
      (repeat (first | refine Below.setCell ?_ (by first | exact Nat.le_refl _ | (simp <;> omega)) _ | refine Below.alloc ?_ (by first | exact B.size | (have := B.size; simp <;> omega)) _)); exact B
set_option maxRecDepth 100000 in
set_option maxHeartbeats 1000000 in
theorem New18_any (v : Value) (l : List UInt64) (a sl g ea : Int) (ev : UInt64) (r : Int) (h1 : sl = newSlot l a) (h2 : g = newGen l a) (h3 : ea = newAt l a) (h4 : ev = newVal l a) (h5 : r = L18.newErr l a) (w : World) (h : Words w v l) :
    Calls Try.prog 69 #[v, .int .i64 a] w fun e w' => e = .returned (.tuple #[.agg #[.int .i64 sl, .int .i64 g], .agg #[.int .i64 ea, .int .u64 ev.toNat], .int .i64 r]) ∧ Below w.heap.size w w' := by
  by_cases h0 : openErr l = 0
  · by_cases ha : 128 ≤ a ∧ a < 2048
    · subst h1 h2 h3 h4 h5
      exact New18_ok v l a w h h0 ha
    · have herr : L18.newErr l a = 2 := by rw [L18.newErr, if_pos h0, if_neg ha]
      have e1 : sl = 0 := h1.trans (if_neg (by rw [herr]; omega))
      have e2 : g = 0 := h2.trans (if_neg (by rw [herr]; omega))
      have e3 : ea = 0 := h3.trans (if_neg (by rw [herr]; omega))
      have e4 : ev = 0 := h4.trans (if_neg (by rw [herr]; omega))
      rw [herr] at h5
      clear h1 h2 h3 h4 herr
      subst e1 e2 e3 e4 h5
      have B : Below w.heap.size w w := Below.refl _ _
      obtain ⟨V, hV⟩ : ∃ V, V = tab (tabOf l) := ⟨_, rfl⟩
      have OT := fun w h => open_any v l V hV 0 h0.symm w h
      have HOT := Lib.hid OT; have H := Lib.hid h; clear OT h
      have hVs : V.size = 48 := by rw [hV]; exact tabOf_size l
      have hV1 : V.all (·.oneCell') = true := by rw [hV]; exact tab_one _
      have HVs := Lib.hid hVs; have HV1 := Lib.hid hV1
      clear hVs hV1 hV h0
      have hcase : a < 128 ∨ 128 ≤ a ∧ 2048 ≤ a := by omega
      clear ha
      rcases hcase with a1 | ⟨a1, a2⟩
      all_goals
        go_enter Try.func69, Try.ntmps69
        go_upto_region 1 with (fail)
        refine wp_gen (fun Wv => Bx Wv (w.heap.size) (24) (#[.int .i64 0, .int .i64 0]) ∧ Bx Wv (w.heap.size + 1) (47) (#[.int .i64 0, .int .u64 0]) ∧ Below w.heap.size w Wv) ⟨(((Bx.at_ (by simp)).alloc _)), ((Bx.at_ (by simp))), (((Below.refl _ w).alloc (by simp <;> omega) _).alloc (by simp <;> omega) _)⟩ ?_
        rintro w' ⟨g4, g5, b⟩
        replace B := B.trans (b.mono B.size); clear b
        have c_g4 := g4.cell; have f_g4 := g4.free; have a_g4 := fun o => (g4.alloc o).cell; have d_g4 := fun o o2 => ((g4.alloc o).alloc o2).cell; have e_g4 := fun o => (g4.alloc o).free
        have c_g5 := g5.cell; have f_g5 := g5.free; have a_g5 := fun o => (g5.alloc o).cell; have d_g5 := fun o o2 => ((g5.alloc o).alloc o2).cell; have e_g5 := fun o => (g5.alloc o).free
        go_wp2_with fail
        refine (HOT.out _ (H.out.below B)).mono ?_
        rintro e w' ⟨rfl, b⟩
        try clear c_g4 f_g4 a_g4 d_g4 e_g4
        replace g4 := g4.below b; have c_g4 := g4.cell; have f_g4 := g4.free; have a_g4 := fun o => (g4.alloc o).cell; have d_g4 := fun o o2 => ((g4.alloc o).alloc o2).cell; have e_g4 := fun o => (g4.alloc o).free; try clear c_g5 f_g5 a_g5 d_g5 e_g5
        replace g5 := g5.below b; have c_g5 := g5.cell; have f_g5 := g5.free; have a_g5 := fun o => (g5.alloc o).cell; have d_g5 := fun o o2 => ((g5.alloc o).alloc o2).cell; have e_g5 := fun o => (g5.alloc o).free; replace B := B.trans (b.mono B.size); clear b
        go_wp2_with ((with_reducible refine at_store 116 7 15 ?_); refine wpList_storeNew rfl _ _ _ rfl rfl V rfl rfl (by rw [HVs.out]; exact size_table) (by rw [HVs.out]; rfl) HV1.out ?_; intro W q1 b1; have k4 := (g4.below b1).cell; have l4 := (g4.below b1).free; have k5 := (g5.below b1).cell; have l5 := (g5.below b1).free)
        refine bodyPost_ret (v := .tuple #[.agg #[.int .i64 0, .int .i64 0], .agg #[.int .i64 0, .int .u64 0], .int .i64 2]) (by simp [results, Try.results69, go_sem, k4, l4, k5, l5]) rfl ⟨rfl, ?_⟩
        replace B := B.trans (b1.mono B.size)
        (repeat (first | refine Below.setCell ?_ (by first | exact Nat.le_refl _ | (simp <;> omega)) _ | refine Below.alloc ?_ (by first | exact B.size | (have := B.size; simp <;> omega)) _)); exact B
  · have herr : L18.newErr l a = openErr l := by rw [L18.newErr, if_neg h0]
    have e1 : sl = 0 := h1.trans (if_neg (by rw [herr]; exact h0))
    have e2 : g = 0 := h2.trans (if_neg (by rw [herr]; exact h0))
    have e3 : ea = 0 := h3.trans (if_neg (by rw [herr]; exact h0))
    have e4 : ev = 0 := h4.trans (if_neg (by rw [herr]; exact h0))
    rw [herr] at h5
    clear h1 h2 h3 h4 herr
    subst e1 e2 e3 e4
    have B : Below w.heap.size w w := Below.refl _ _
    obtain ⟨V, hV⟩ : ∃ V, V = tab (tabOf l) := ⟨_, rfl⟩
    have OT := fun w h => open_any v l V hV r h5 w h
    have HOT := Lib.hid OT; have H := Lib.hid h; clear OT h
    have hVs : V.size = 48 := by rw [hV]; exact tabOf_size l
    have hV1 : V.all (·.oneCell') = true := by rw [hV]; exact tab_one _
    have HVs := Lib.hid hVs; have HV1 := Lib.hid hV1
    have hne : (r != 0) = true := by rw [bne_iff_ne, h5]; exact h0
    clear hVs hV1 hV h0 h5
    go_enter Try.func69, Try.ntmps69
    go_upto_region 1 with (fail)
    refine wp_gen (fun Wv => Bx Wv (w.heap.size) (24) (#[.int .i64 0, .int .i64 0]) ∧ Bx Wv (w.heap.size + 1) (47) (#[.int .i64 0, .int .u64 0]) ∧ Below w.heap.size w Wv) ⟨(((Bx.at_ (by simp)).alloc _)), ((Bx.at_ (by simp))), (((Below.refl _ w).alloc (by simp <;> omega) _).alloc (by simp <;> omega) _)⟩ ?_
    rintro w' ⟨g4, g5, b⟩
    replace B := B.trans (b.mono B.size); clear b
    have c_g4 := g4.cell; have f_g4 := g4.free; have a_g4 := fun o => (g4.alloc o).cell; have d_g4 := fun o o2 => ((g4.alloc o).alloc o2).cell; have e_g4 := fun o => (g4.alloc o).free
    have c_g5 := g5.cell; have f_g5 := g5.free; have a_g5 := fun o => (g5.alloc o).cell; have d_g5 := fun o o2 => ((g5.alloc o).alloc o2).cell; have e_g5 := fun o => (g5.alloc o).free
    go_wp2_with fail
    refine (HOT.out _ (H.out.below B)).mono ?_
    rintro e w' ⟨rfl, b⟩
    try clear c_g4 f_g4 a_g4 d_g4 e_g4
    replace g4 := g4.below b; have c_g4 := g4.cell; have f_g4 := g4.free; have a_g4 := fun o => (g4.alloc o).cell; have d_g4 := fun o o2 => ((g4.alloc o).alloc o2).cell; have e_g4 := fun o => (g4.alloc o).free; try clear c_g5 f_g5 a_g5 d_g5 e_g5
    replace g5 := g5.below b; have c_g5 := g5.cell; have f_g5 := g5.free; have a_g5 := fun o => (g5.alloc o).cell; have d_g5 := fun o o2 => ((g5.alloc o).alloc o2).cell; have e_g5 := fun o => (g5.alloc o).free; replace B := B.trans (b.mono B.size); clear b
    go_wp2_with ((with_reducible refine at_store 116 7 15 ?_); refine wpList_storeNew rfl _ _ _ rfl rfl V rfl rfl (by rw [HVs.out]; exact size_table) (by rw [HVs.out]; rfl) HV1.out ?_; intro W q1 b1; have k4 := (g4.below b1).cell; have l4 := (g4.below b1).free; have k5 := (g5.below b1).cell; have l5 := (g5.below b1).free)
    refine bodyPost_ret (v := .tuple #[.agg #[.int .i64 0, .int .i64 0], .agg #[.int .i64 0, .int .u64 0], .int .i64 r]) (by simp [results, Try.results69, go_sem, k4, l4, k5, l5]) rfl ⟨rfl, ?_⟩
    replace B := B.trans (b1.mono B.size)
    (repeat (first | refine Below.setCell ?_ (by first | exact Nat.le_refl _ | (simp <;> omega)) _ | refine Below.alloc ?_ (by first | exact B.size | (have := B.size; simp <;> omega)) _)); exact B
end Go.Proofs.Ytiiilaojllmmiaa
namespace Go.Proofs.Ytiiilaojllmmiaa
open Go.RowKit L01 L02 L18
theorem rightErr_ok {L : List Sl} {sl g : Int} (h : rightErr L sl g = 0) : 0 ≤ sl ∧ sl < L.length ∧ ∃ s, L[sl.toNat]? = some s ∧ s.used = true ∧ s.gen = g := by
  unfold rightErr at h
  split at h
  · rename_i h1
    split at h
    · rename_i h2
      refine ⟨h1.1, h1.2, _, List.getElem?_eq_getElem (by omega), ?_⟩
      rw [List.getD_eq_getElem?_getD, List.getElem?_eq_getElem (by omega)] at h2
      exact h2
    · omega
  · omega
end Go.Proofs.Ytiiilaojllmmiaa
namespace Go.Proofs.Ytiiilaojllmmiaa
open Go.RowKit L01 L02 L18
theorem Slots.at_ {P : Program} {w : World} {v : Value} {L : List Sl} {t e : TypeId} (h : Slots w v L) (ht : P.underlying t = some (.slice e)) (hi : (P.info? e).map (·.size) = some 3) {k : Nat} (hk : k < L.length) :
    ∃ b o s, (∀ W, (Instr.indexAt t v (.int .i64 (k : Int))).run P W = .ok (.pointer (some ⟨b, o, none⟩)) W) ∧ w.cell? ⟨b, o, none⟩ = some (.int .i64 s.gen) ∧ w.cell? ⟨b, o + 1, none⟩ = some (.bool s.used) ∧ w.cell? ⟨b, o + 2, none⟩ = some (.int .i64 s.at_) ∧ Hid (L[k]? = some s) := by
  have hix := fun W => Rd.ixN h ht hi hk W
  obtain ⟨b, o, c, rfl, hb, hc, hcell⟩ := Rd.form h (by omega)
  have hs : L[k]? = some L[k] := List.getElem?_eq_getElem hk
  have t0 := tabL_get L k _ hs 0 (by omega)
  have t1 := tabL_get L k _ hs 1 (by omega)
  have t2 := tabL_get L k _ hs 2 (by omega)
  refine ⟨b, o + k * 3, L[k], fun W => hix W, hcell _ _ t0, hcell _ _ t1, hcell _ _ t2, Lib.hid hs⟩
set_option maxRecDepth 100000 in
set_option maxHeartbeats 1000000 in
theorem RightR_any (v : Value) (L : List Sl) (sl g : Int) (r : Int) (hr : r = rightErr L sl g) (w : World) (h : Slots w v L) :
    Calls Try.prog 68 #[v, .agg #[.int .i64 sl, .int .i64 g]] w fun e w' => e = .returned (.int .i64 r) ∧ Below w.heap.size w w' := by
  have B : Below w.heap.size w w := Below.refl _ _
  have l1 := Rd.len h Try.underlying50
  obtain ⟨N, hN⟩ : ∃ N, N = L.length := ⟨_, rfl⟩
  rw [← hN] at l1
  by_cases hin : 0 ≤ sl ∧ sl < N
  · obtain ⟨h0, h1⟩ := hin
    obtain ⟨k, rfl⟩ := Int.eq_ofNat_of_zero_le h0
    obtain ⟨b, o, s, ia, m0, m1, m2, hs⟩ := h.at_ (P := Try.prog) Try.underlying50 size_slot (k := k) (by omega)
    have hgd : L.getD (k : Int).toNat .none = s := by simp [List.getD_eq_getElem?_getD, hs.out]
    have hrr : r = if s.used = true ∧ s.gen = g then 0 else 28 := by rw [hr, rightErr, if_pos (by omega), hgd]
    clear hr hgd hs
    have HN := Lib.hid hN; clear hN h
    obtain ⟨gn, us, a⟩ := s
    dsimp only at *
    have hcase : (us = false ∧ r = 28) ∨ (us = true ∧ (gn != g) = true ∧ r = 28) ∨ (us = true ∧ (gn != g) = false ∧ r = 0) := by
      cases us
      · exact .inl ⟨rfl, by rw [hrr, if_neg (by simp)]⟩
      · by_cases hg : gn = g
        · exact .inr (.inr ⟨rfl, by rw [bne_eq_false_iff_eq]; exact hg, by rw [hrr, if_pos ⟨rfl, hg⟩]⟩)
        · exact .inr (.inl ⟨rfl, by rw [bne_iff_ne]; exact hg, by rw [hrr, if_neg (fun h => hg h.2)]⟩)
    clear hrr
    have n0 : (0 : Int) ≤ (k : Int) := by omega
    rcases hcase with ⟨rfl, rfl⟩ | ⟨rfl, hne, rfl⟩ | ⟨rfl, hne, rfl⟩
    all_goals
      go_enter Try.func68, Try.ntmps68
      go_upto_region 1 with (fail)
      refine wp_gen (fun Wv => Bx Wv (w.heap.size) (24) (#[.int .i64 k, .int .i64 g]) ∧ Below w.heap.size w Wv) ⟨((Bx.at_ (by simp))), ((Below.refl _ w).alloc (by simp <;> omega) _)⟩ ?_
      rintro w' ⟨g3, b⟩
      replace m0 := cell_later b m0; replace m1 := cell_later b m1; replace m2 := cell_later b m2; replace B := B.trans (b.mono B.size); clear b
      have c_g3 := g3.cell; have f_g3 := g3.free; have a_g3 := fun o => (g3.alloc o).cell; have d_g3 := fun o o2 => ((g3.alloc o).alloc o2).cell; have e_g3 := fun o => (g3.alloc o).free
      go_wp2
      refine wp_region_calm (by kernel_rfl) (by kernel_rfl) ?_
      try clear c_g3 f_g3 a_g3 d_g3 e_g3
      have c_g3 := fun x : Fut _ => (g3.below x.h).cell
      have c_m0 := fun x : Fut _ => cell_later x.h m0
      have c_m1 := fun x : Fut _ => cell_later x.h m1
      have c_m2 := fun x : Fut _ => cell_later x.h m2
      repeat (go_big_quiet_step (fail))
      refine wpQuiet_nil ?_
      intro _ hw'
      obtain ⟨xq, hw''⟩ := hw'
      subst hw''
      clear c_m0; replace m0 := cell_later xq.h m0
      clear c_m1; replace m1 := cell_later xq.h m1
      clear c_m2; replace m2 := cell_later xq.h m2
      clear c_g3; replace g3 := g3.below xq.h; have c_g3 := g3.cell; have f_g3 := g3.free; have a_g3 := fun o => (g3.alloc o).cell; have d_g3 := fun o o2 => ((g3.alloc o).alloc o2).cell; have e_g3 := fun o => (g3.alloc o).free
      replace B := B.trans (xq.h.mono B.size)
      go_wp2
      go_ret
      exact ⟨rfl, B⟩
  · have hr0 : r = 2 := by rw [hr, rightErr, if_neg (by omega)]
    clear hr h hN
    subst hr0
    have hcase : sl < 0 ∨ 0 ≤ sl ∧ (N : Int) ≤ sl := by omega
    clear hin
    rcases hcase with hneg | ⟨hneg, hbig⟩
    all_goals
      go_enter Try.func68, Try.ntmps68
      go_upto_region 1 with (fail)
      refine wp_gen (fun Wv => Bx Wv (w.heap.size) (24) (#[.int .i64 sl, .int .i64 g]) ∧ Below w.heap.size w Wv) ⟨((Bx.at_ (by simp))), ((Below.refl _ w).alloc (by simp <;> omega) _)⟩ ?_
      rintro w' ⟨g3, b⟩
      replace B := B.trans (b.mono B.size); clear b
      have c_g3 := g3.cell; have f_g3 := g3.free; have a_g3 := fun o => (g3.alloc o).cell; have d_g3 := fun o o2 => ((g3.alloc o).alloc o2).cell; have e_g3 := fun o => (g3.alloc o).free
      go_wp2
      go_ret
      exact ⟨rfl, B⟩
def sameS (a b : List Sl) : Bool := decide (a = b)
theorem sameS_refl (a : List Sl) : sameS a a = true := by simp [sameS]
set_option maxRecDepth 100000 in
set_option maxHeartbeats 1000000 in
theorem SameS_any (va vb : Value) (La Lb : List Sl) (r : Bool) (hr : r = sameS La Lb) (w : World) (ha : Slots w va La) (hb : Slots w vb Lb) :
    Calls Try.prog 88 #[va, vb] w fun e w' => e = .returned (.bool r) ∧ Below w.heap.size w w' := by
  have B : Below w.heap.size w w := Below.refl _ _
  have la1 := Rd.len ha Try.underlying50; have lb1 := Rd.len hb Try.underlying50
  have la2 := Rd.len_le ha; have lb2 := Rd.len_le hb
  have HA := Lib.hid ha; have HB := Lib.hid hb; have HR := Lib.hid hr; clear ha hb hr
  obtain ⟨na, hna⟩ : ∃ na, na = La.length := ⟨_, rfl⟩
  obtain ⟨nb, hnb⟩ : ∃ nb, nb = Lb.length := ⟨_, rfl⟩
  rw [← hna] at la1 la2; rw [← hnb] at lb1 lb2
  have Hna := Lib.hid hna; have Hnb := Lib.hid hnb; clear hna hnb
  by_cases hl : na = nb
  · subst hl
    go_enter Try.func88, Try.ntmps88
    go_wp2
    have HBB := Lib.hid B; clear B
    go_loopw [5] (fun i wr => ∃ k : Nat, k ≤ na ∧ i = .int .i64 k ∧ Hid (La.take k = Lb.take k) ∧ Below w.heap.size w wr) (fun i _ => na - (intOf i).toNat)
    case atStart => exact ⟨0, Nat.zero_le _, rfl, Lib.hid rfl, HBB.out⟩
    case round =>
      obtain ⟨k, hk, rfl, heq, B⟩ := hrel
      by_cases hlt : k < na
      · obtain ⟨b, o, s, ia, m0, m1, m2, hs⟩ := (HA.out.below B).at_ (P := Try.prog) Try.underlying50 size_slot (k := k) (by have := Hna.out; omega)
        obtain ⟨b', o', t, ib, m3, m4, m5, ht⟩ := (HB.out.below B).at_ (P := Try.prog) Try.underlying50 size_slot (k := k) (by have := Hnb.out; omega)
        obtain ⟨c, hc⟩ : ∃ c, c = !decide (s = t) := ⟨_, rfl⟩
        have q := fun W => slot_neq s t c hc W
        have HC := Lib.hid hc; clear hc
        cases c
        · go_wp2
          refine wp_region_calm (by kernel_rfl) (by kernel_rfl) ?_
          have c_m0 := fun x : Fut _ => cell_later x.h m0
          have c_m1 := fun x : Fut _ => cell_later x.h m1
          have c_m2 := fun x : Fut _ => cell_later x.h m2
          have c_m3 := fun x : Fut _ => cell_later x.h m3
          have c_m4 := fun x : Fut _ => cell_later x.h m4
          have c_m5 := fun x : Fut _ => cell_later x.h m5
          repeat (go_big_quiet_step (fail))
          refine wpQuiet_nil ?_
          intro _ hw'
          obtain ⟨xq, hw''⟩ := hw'
          subst hw''
          clear c_m0; replace m0 := cell_later xq.h m0
          clear c_m1; replace m1 := cell_later xq.h m1
          clear c_m2; replace m2 := cell_later xq.h m2
          clear c_m3; replace m3 := cell_later xq.h m3
          clear c_m4; replace m4 := cell_later xq.h m4
          clear c_m5; replace m5 := cell_later xq.h m5
          replace B := B.trans (xq.h.mono B.size)
          go_wp2
          go_roundw
          case rel =>
            have e : s = t := by have := HC.out; simpa using this
            refine ⟨k + 1, by omega, by go_num, Lib.hid ?_, B⟩
            rw [List.take_add_one, List.take_add_one, heq.out, hs.out, ht.out, e]
          case measure => simp [intOf]; omega
        · go_wp2
          refine wp_region_calm (by kernel_rfl) (by kernel_rfl) ?_
          have c_m0 := fun x : Fut _ => cell_later x.h m0
          have c_m1 := fun x : Fut _ => cell_later x.h m1
          have c_m2 := fun x : Fut _ => cell_later x.h m2
          have c_m3 := fun x : Fut _ => cell_later x.h m3
          have c_m4 := fun x : Fut _ => cell_later x.h m4
          have c_m5 := fun x : Fut _ => cell_later x.h m5
          repeat (go_big_quiet_step (fail))
          refine wpQuiet_nil ?_
          intro _ hw'
          obtain ⟨xq, hw''⟩ := hw'
          subst hw''
          clear c_m0; replace m0 := cell_later xq.h m0
          clear c_m1; replace m1 := cell_later xq.h m1
          clear c_m2; replace m2 := cell_later xq.h m2
          clear c_m3; replace m3 := cell_later xq.h m3
          clear c_m4; replace m4 := cell_later xq.h m4
          clear c_m5; replace m5 := cell_later xq.h m5
          replace B := B.trans (xq.h.mono B.size)
          go_wp2
          go_ret
          refine ⟨ret_bool ?_, B⟩
          have e : ¬ s = t := by have := HC.out; simpa using this
          rw [HR.out, sameS, eq_comm, decide_eq_false_iff_not]
          intro hab
          have h1 := hs.out; have h2 := ht.out
          rw [hab, h2] at h1
          injection h1 with h1
          exact e h1.symm
      · obtain rfl : k = na := by omega
        go_wp2
        go_ret
        refine ⟨ret_bool ?_, B⟩
        have h1 := heq.out
        rw [List.take_of_length_le (by have := Hna.out; omega), List.take_of_length_le (by have := Hnb.out; omega)] at h1
        rw [HR.out, h1, sameS_refl]
  · have hl' : ((na : Int) != nb) = true := by rw [bne_iff_ne]; omega
    go_enter Try.func88, Try.ntmps88
    go_wp2
    go_ret
    refine ⟨ret_bool ?_, B⟩
    rw [HR.out, sameS, eq_comm, decide_eq_false_iff_not]
    intro hab
    have h1 := Hna.out; have h2 := Hnb.out
    rw [hab] at h1; omega
end Go.Proofs.Ytiiilaojllmmiaa
namespace Go.Proofs.Ytiiilaojllmmiaa
open Go.RowKit L01 L02 L18
theorem info_slot : (Try.prog.info? 55).map (fun i => (i.zero, i.size, i.bytes)) = some (some (.agg #[.int .i64 0, .bool false, .int .i64 0]), 3, 24) := by kernel_rfl
theorem lit_slot {w : World} {e : TypeId} {n : Nat} (s : Sl) (hn : w.heap.size = n) : Rd (w.alloc (.cells #[.int .i64 s.gen, .bool s.used, .int .i64 s.at_] e)) 3 (.slice (some ⟨n, 0, none⟩) 1 1) 1 (slC s) := by
  subst hn; exact lit_rdK (n := 1) (sz := 3) rfl (by omega)
theorem slC_one (s : Sl) : ∀ u ∈ slC s, u.oneCell' = true := by
  intro u hu
  simp [slC] at hu
  rcases hu with rfl | rfl | rfl <;> rfl
theorem OwnS.of {w : World} {B E n : Nat} {v : Value} {xs : List Value} {L : List Sl} (h : w.ownsRow B E 3 v n xs) (hx : xs = tabL L) : OwnS w B E v L := by
  subst hx
  have hn : n = L.length := by have := h.1; rw [tabL_len] at this; omega
  subst hn; exact h
theorem tabL_snoc (L : List Sl) (s : Sl) : tabL L ++ slC s = tabL (L ++ [s]) := by simp [tabL, List.flatMap_append]
set_option maxRecDepth 100000 in
set_option maxHeartbeats 1000000 in
theorem ToldR_any (v : Value) (l : List UInt64) (hs : SizeOk l.length) (L : List Sl) (r : Bool) (hL : L = all l) (hr : r = decide (openErr l = 0)) (w : World) (h : Words w v l) :
    Calls Try.prog 70 #[v] w fun e w' => ∃ x, e = .returned (.tuple #[x, .bool r]) ∧ OwnS w' w.heap.size 55 x L ∧ Below w.heap.size w w' := by
  have B : Below w.heap.size w w := Below.refl _ _
  have H := Lib.hid h; have HS := Lib.hid hs; have HL := Lib.hid hL; have HR := Lib.hid hr
  have hlen := hs.1
  clear h hs hL hr
  go_enter Try.func70, Try.ntmps70
  go_wp2
  have HB := Lib.hid B; clear B
  go_loopw [4, 5] (fun xv i wr => ∃ k : Nat, k ≤ 16 ∧ i = .int .i64 k ∧ Hid (OwnS wr w.heap.size 55 xv ((slots l).take k) ∧ ∀ x ∈ (ws l).take k, Right (spl x)) ∧ Below w.heap.size w wr) (fun _ i _ => 16 - (intOf i).toNat)
  case atStart => exact ⟨0, by omega, rfl, Lib.hid ⟨OwnS.nil _ _ _, by simp⟩, HB.out⟩
  case round =>
    obtain ⟨k, hk, rfl, hh, B⟩ := hrel
    by_cases hlt : k < 16
    · obtain ⟨ad, x, ia, ca, hx⟩ := (H.out.below B).atI Try.underlying22 one_u64 (k := 112 + (k : Int)) (by omega) (by omega)
      have hx' : (ws l)[k]? = some x := ws_get hlt (by have := hx.out; rwa [show (112 + (k : Int)).toNat = 112 + k by omega] at this)
      have HX := Lib.hid hx'; clear hx hx'
      by_cases hr : Right (spl x)
      · have SP := SplitR_r x (spl x) 0 (by rw [spl0, if_pos hr]) (by rw [splErr, if_pos hr])
        obtain ⟨s, hs⟩ : ∃ s, s = spl x := ⟨_, rfl⟩
        rw [← hs] at SP
        have HSP := Lib.hid SP; have HRR := Lib.hid hr; have HSX := Lib.hid hs; clear SP hr hs
        go_wp2_with fail
        refine (HSP.out _).mono ?_
        rintro e w2 ⟨rfl, b⟩
        have o := hh.out.1.below b
        replace B := B.trans (b.mono B.size)
        have HO := Lib.hid o; have HBB := Lib.hid B; clear b o B
        have hlk : ((slots l).take k).length ≤ 16 := by have := List.length_take_le k (slots l); omega
        go_wp2_with (at_builtin; refine wpList_append (by rfl) rfl rfl rfl Try.underlying50 info_slot rfl (by omega) (by exact own_below HO.out (((Below.refl _ _).alloc (Nat.le_refl _) _).alloc (by simp) _)) (by exact lit_slot s (by simp)) (slC_one s) (by omega) (by omega) (by exact (HBB.out.alloc HBB.out.size _).alloc (by have := HBB.out.size; simp; omega) _) (Nat.le_refl _) ?_; intro v1 w3 o3 B3 g3; clear g3)
        have hgS : (slots l)[k]? = some s := by rw [slots, List.getElem?_map, HX.out, HSX.out]; rfl
        have o4 : OwnS w3 w.heap.size 55 v1 ((slots l).take (k + 1)) := OwnS.of o3 (by rw [tabL_snoc, List.take_add_one, hgS]; rfl)
        have HO4 := Lib.hid o4; have HB3 := Lib.hid B3; clear o3 o4 B3 hgS
        go_roundw
        case rel => exact ⟨k + 1, by omega, by go_num, Lib.hid ⟨HO4.out, right_take hh.out.2 HX.out HRR.out⟩, HB3.out⟩
        case measure => simp [intOf]; omega
      · have SP := SplitR_r x .none 50 (by rw [spl0, if_neg hr]) (by rw [splErr, if_neg hr])
        have he := openErr_no HS.out HX.out hr
        have HSP := Lib.hid SP; have HE := Lib.hid he; clear SP hr he
        go_wp2_with fail
        refine (HSP.out _).mono ?_
        rintro e w2 ⟨rfl, b⟩
        replace B := B.trans (b.mono B.size); clear b
        go_wp2
        go_ret2
        have hr1 : r = false := by rw [HR.out, decide_eq_false (by rw [HE.out]; omega)]
        subst hr1
        refine ⟨_, rfl, ?_, B.alloc B.size _⟩
        rw [HL.out, all_nil (by rw [HE.out]; omega)]; exact OwnS.nil _ _ _
    · obtain rfl : k = 16 := by omega
      have he := openErr_of HS.out hh.out.2
      have HE := Lib.hid he; clear he
      go_wp2
      go_ret2
      have hr1 : r = true := by rw [HR.out, decide_eq_true HE.out]
      subst hr1
      refine ⟨_, rfl, ?_, B⟩
      have := hh.out.1
      rw [List.take_of_length_le (by rw [slots16 HE.out]; omega)] at this
      rw [HL.out, all_ok HE.out]; exact this
set_option maxRecDepth 100000 in
set_option maxHeartbeats 1000000 in
theorem AllR_any (v : Value) (l : List UInt64) (L : List Sl) (r : Int) (hL : L = all l) (hr : r = openErr l) (w : World) (h : Words w v l) :
    Calls Try.prog 67 #[v] w fun e w' => ∃ x E, e = .returned (.tuple #[x, .int .i64 r]) ∧ OwnS w' w.heap.size E x L ∧ Below w.heap.size w w' := by
  have B : Below w.heap.size w w := Below.refl _ _
  have CT := fun w h => CheckR_any v l w h
  by_cases hs : SizeOk l.length
  · rw [chk_ok hs] at CT
    by_cases h0 : openErr l = 0
    · have TT := fun w h => ToldR_any v l hs L true hL (by rw [decide_eq_true h0]) w h
      have HC := Lib.hid CT; have HT := Lib.hid TT; have H := Lib.hid h
      rw [h0] at hr
      subst hr
      clear CT TT h h0 hL hs
      go_enter Try.func67, Try.ntmps67
      go_wp2_with fail
      refine (HC.out _ H.out).mono ?_
      rintro e w1 ⟨rfl, rfl⟩
      go_wp2_with fail
      refine (HT.out _ H.out).mono ?_
      rintro e w1 ⟨x, rfl, o, b⟩
      go_wp2
      go_ret2
      exact ⟨x, _, rfl, o, b⟩
    · have h50 : openErr l = 50 := by
        unfold openErr at h0 ⊢
        rw [if_pos hs] at h0 ⊢
        split <;> simp_all
      have TT := fun w h => ToldR_any v l hs L false hL (by rw [decide_eq_false h0]) w h
      have HC := Lib.hid CT; have HT := Lib.hid TT; have H := Lib.hid h
      rw [h50] at hr
      have hL0 := hL.trans (all_nil h0)
      subst hr hL0
      clear CT TT h h0 hL hs h50
      go_enter Try.func67, Try.ntmps67
      go_wp2_with fail
      refine (HC.out _ H.out).mono ?_
      rintro e w1 ⟨rfl, rfl⟩
      go_wp2_with fail
      refine (HT.out _ H.out).mono ?_
      rintro e w1 ⟨x, rfl, o, b⟩
      go_wp2
      go_ret2
      exact ⟨_, 0, rfl, OwnS.nil _ _ _, b⟩
  · have h8 : openErr l = 8 := by rw [openErr, if_neg hs]
    rw [chk_no hs] at CT
    have HC := Lib.hid CT; have H := Lib.hid h
    have hL0 := hL.trans (all_nil (by rw [h8]; omega))
    rw [h8] at hr
    subst hr hL0
    clear CT h hL hs h8
    go_enter Try.func67, Try.ntmps67
    go_wp2_with fail
    refine (HC.out _ H.out).mono ?_
    rintro e w1 ⟨rfl, rfl⟩
    go_wp2
    go_ret2
    exact ⟨_, 0, rfl, OwnS.nil _ _ _, B⟩
set_option maxRecDepth 100000 in
set_option maxHeartbeats 1000000 in
theorem ResolveR_any (v : Value) (l : List UInt64) (sl g : Int) (x r : Int) (hx : x = res l sl g) (hr : r = resErr l sl g) (w : World) (h : Words w v l) :
    Calls Try.prog 32 #[v, .agg #[.int .i64 sl, .int .i64 g]] w fun e w' => e = .returned (.tuple #[.int .i64 x, .int .i64 r]) ∧ Below w.heap.size w w' := by
  have B : Below w.heap.size w w := Below.refl _ _
  obtain ⟨L, hL⟩ : ∃ L, L = all l := ⟨_, rfl⟩
  obtain ⟨oe, hoe⟩ : ∃ oe, oe = openErr l := ⟨_, rfl⟩
  have AT := fun w h => AllR_any v l L oe hL hoe w h
  have HAT := Lib.hid AT; have H := Lib.hid h; clear AT h
  by_cases h0 : openErr l = 0
  · have hr0 : r = rightErr L sl g := by rw [hr, resErr, if_pos h0, hL, all_ok h0]
    have RT := fun v w h => RightR_any v L sl g r hr0 w h
    have HRT := Lib.hid RT; clear RT
    rw [h0] at hoe
    subst hoe
    by_cases hrr : r = 0
    · obtain ⟨p1, p2, s, p3, p4, p5⟩ := rightErr_ok (hr0.symm.trans hrr)
      obtain ⟨k, rfl⟩ := Int.eq_ofNat_of_zero_le p1
      have hx0 : x = s.at_ := by
        rw [hx, res, if_pos (by rw [← hr]; exact hrr), ← all_ok h0, ← hL]
        simp at p3
        simp [List.getD_eq_getElem?_getD, p3]
      have hk : k < L.length := by omega
      simp only [Int.toNat_natCast] at p3
      have HP := Lib.hid p3
      clear hx hr h0 hr0 p4 p5 hL p2 p3
      subst hrr hx0
      go_enter Try.func32, Try.ntmps32
      go_upto_region 1 with (fail)
      refine wp_gen (fun Wv => Bx Wv (w.heap.size) (24) (#[.int .i64 k, .int .i64 g]) ∧ Below w.heap.size w Wv) ⟨((Bx.at_ (by simp))), ((Below.refl _ w).alloc (by simp <;> omega) _)⟩ ?_
      rintro w' ⟨g1, b⟩
      replace B := B.trans (b.mono B.size); clear b
      have c_g1 := g1.cell; have f_g1 := g1.free; have a_g1 := fun o => (g1.alloc o).cell; have d_g1 := fun o o2 => ((g1.alloc o).alloc o2).cell; have e_g1 := fun o => (g1.alloc o).free
      go_wp2_with fail
      refine (HAT.out _ (H.out.below B)).mono ?_
      rintro e w' ⟨xv, E, rfl, r1, b⟩
      try clear c_g1 f_g1 a_g1 d_g1 e_g1
      replace g1 := g1.below b; have c_g1 := g1.cell; have f_g1 := g1.free; have a_g1 := fun o => (g1.alloc o).cell; have d_g1 := fun o o2 => ((g1.alloc o).alloc o2).cell; have e_g1 := fun o => (g1.alloc o).free; replace B := B.trans (b.mono B.size); clear b
      go_wp2_with fail
      refine (HRT.out _ _ r1.rd).mono ?_
      rintro e w' ⟨rfl, b⟩
      try clear c_g1 f_g1 a_g1 d_g1 e_g1
      replace g1 := g1.below b; have c_g1 := g1.cell; have f_g1 := g1.free; have a_g1 := fun o => (g1.alloc o).cell; have d_g1 := fun o o2 => ((g1.alloc o).alloc o2).cell; have e_g1 := fun o => (g1.alloc o).free; replace r1 := r1.below b; replace B := B.trans (b.mono B.size); clear b
      obtain ⟨b, o, t, ia, c0, c1, c2, ht⟩ := r1.rd.at_ (P := Try.prog) Try.underlying50 size_slot (k := k) hk
      have hts : t = s := by have h1 := ht.out; rw [HP.out] at h1; injection h1 with h1; exact h1.symm
      subst hts
      have n0 : (0 : Int) ≤ (k : Int) := by omega
      go_wp2
      go_ret2
      exact ⟨rfl, B⟩
    · have hne : (r != 0) = true := by rw [bne_iff_ne]; exact hrr
      have hx0 : x = 0 := by rw [hx, res, if_neg (by rw [← hr]; exact hrr)]
      clear hx hr h0 hr0 hrr hL
      subst hx0
      go_enter Try.func32, Try.ntmps32
      go_upto_region 1 with (fail)
      refine wp_gen (fun Wv => Bx Wv (w.heap.size) (24) (#[.int .i64 sl, .int .i64 g]) ∧ Below w.heap.size w Wv) ⟨((Bx.at_ (by simp))), ((Below.refl _ w).alloc (by simp <;> omega) _)⟩ ?_
      rintro w' ⟨g1, b⟩
      replace B := B.trans (b.mono B.size); clear b
      have c_g1 := g1.cell; have f_g1 := g1.free; have a_g1 := fun o => (g1.alloc o).cell; have d_g1 := fun o o2 => ((g1.alloc o).alloc o2).cell; have e_g1 := fun o => (g1.alloc o).free
      go_wp2_with fail
      refine (HAT.out _ (H.out.below B)).mono ?_
      rintro e w' ⟨xv, E, rfl, r1, b⟩
      try clear c_g1 f_g1 a_g1 d_g1 e_g1
      replace g1 := g1.below b; have c_g1 := g1.cell; have f_g1 := g1.free; have a_g1 := fun o => (g1.alloc o).cell; have d_g1 := fun o o2 => ((g1.alloc o).alloc o2).cell; have e_g1 := fun o => (g1.alloc o).free; replace B := B.trans (b.mono B.size); clear b
      go_wp2_with fail
      refine (HRT.out _ _ r1.rd).mono ?_
      rintro e w' ⟨rfl, b⟩
      try clear c_g1 f_g1 a_g1 d_g1 e_g1
      replace g1 := g1.below b; have c_g1 := g1.cell; have f_g1 := g1.free; have a_g1 := fun o => (g1.alloc o).cell; have d_g1 := fun o o2 => ((g1.alloc o).alloc o2).cell; have e_g1 := fun o => (g1.alloc o).free; replace r1 := r1.below b; replace B := B.trans (b.mono B.size); clear b
      go_wp2
      go_ret2
      exact ⟨rfl, B⟩
  · have hne : (oe != 0) = true := by rw [bne_iff_ne, hoe]; exact h0
    have hr0 : r = oe := by rw [hr, resErr, if_neg h0, hoe]
    have hx0 : x = 0 := by rw [hx, res, resErr, if_neg h0, if_neg h0]
    clear hr h0 hx hoe hL
    subst hr0 hx0
    go_enter Try.func32, Try.ntmps32
    go_upto_region 1 with (fail)
    refine wp_gen (fun Wv => Bx Wv (w.heap.size) (24) (#[.int .i64 sl, .int .i64 g]) ∧ Below w.heap.size w Wv) ⟨((Bx.at_ (by simp))), ((Below.refl _ w).alloc (by simp <;> omega) _)⟩ ?_
    rintro w' ⟨g1, b⟩
    replace B := B.trans (b.mono B.size); clear b
    have c_g1 := g1.cell; have f_g1 := g1.free; have a_g1 := fun o => (g1.alloc o).cell; have d_g1 := fun o o2 => ((g1.alloc o).alloc o2).cell; have e_g1 := fun o => (g1.alloc o).free
    go_wp2_with fail
    refine (HAT.out _ (H.out.below B)).mono ?_
    rintro e w' ⟨xv, E, rfl, r1, b⟩
    try clear c_g1 f_g1 a_g1 d_g1 e_g1
    replace g1 := g1.below b; have c_g1 := g1.cell; have f_g1 := g1.free; have a_g1 := fun o => (g1.alloc o).cell; have d_g1 := fun o o2 => ((g1.alloc o).alloc o2).cell; have e_g1 := fun o => (g1.alloc o).free; replace B := B.trans (b.mono B.size); clear b
    go_wp2
    go_ret2
    exact ⟨rfl, B⟩
end Go.Proofs.Ytiiilaojllmmiaa
namespace Go.Proofs.Ytiiilaojllmmiaa.L06
open L02 L05
def SupOk (W T : Int) : Prop := SizeOk W ∧ 0 ≤ T ∧ T ≤ 8
instance (W T : Int) : Decidable (SupOk W T) := inferInstanceAs (Decidable (SizeOk W ∧ 0 ≤ T ∧ T ≤ 8))
def magic : UInt64 := 32777959566500194
def u (n : Int) : UInt64 := UInt64.ofNat n.toNat
def body (W T : Int) : List UInt64 := [magic, 1, u W, u T, 0, 0, 0]
def wordsOf (W T : Int) : List UInt64 := body W T ++ [sum (body W T)]
def write (W T : Int) : List UInt64 := if SupOk W T then wordsOf W T else []
def at2 (l : List UInt64) : Int := (l.getD 2 0).toNat
def at3 (l : List UInt64) : Int := (l.getD 3 0).toNat
def ReadOk (l : List UInt64) : Prop := SupOk (at2 l) (at3 l) ∧ l = wordsOf (at2 l) (at3 l)
instance (l : List UInt64) : Decidable (ReadOk l) := inferInstanceAs (Decidable (SupOk (at2 l) (at3 l) ∧ l = wordsOf (at2 l) (at3 l)))
def rdW (l : List UInt64) : Int := if ReadOk l then at2 l else 0
def rdT (l : List UInt64) : Int := if ReadOk l then at3 l else 0
def rdErr (l : List UInt64) : Int := if l.length = 8 then (if ReadOk l then 0 else 50) else 2
theorem u_nat {n : Int} (h0 : 0 ≤ n) (h1 : n < 18446744073709551616) : ((u n).toNat : Int) = n := by
  unfold u; rw [UInt64.toNat_ofNat', Nat.mod_eq_of_lt (by omega)]; omega
theorem len_words (W T : Int) : (wordsOf W T).length = 8 := rfl
theorem readOk_len {l : List UInt64} (h : ReadOk l) : l.length = 8 := by rw [h.2]; rfl
theorem rd_no {l : List UInt64} (h : ¬ ReadOk l) : rdW l = 0 ∧ rdT l = 0 := ⟨if_neg h, if_neg h⟩
/-! ### the sum tells one byte -/
def inv : UInt64 := 14886173955864302971
end Go.Proofs.Ytiiilaojllmmiaa.L06
namespace Go.Proofs.Ytiiilaojllmmiaa.L07
open L02 L05 L06
def c0 (m : List UInt64) : List UInt64 := m.take 8
def c1 (m : List UInt64) : List UInt64 := (m.drop 8).take 8
def CopyOk (n : Nat) (l : List UInt64) : Prop := ReadOk l ∧ at2 l = (n : Int)
instance (n : Nat) (l : List UInt64) : Decidable (CopyOk n l) := inferInstanceAs (Decidable (ReadOk l ∧ at2 l = (n : Int)))
def is0 (m : List UInt64) : Bool := decide (SizeOk m.length ∧ CopyOk m.length (c0 m))
def is1 (m : List UInt64) : Bool := decide (SizeOk m.length ∧ CopyOk m.length (c1 m))
def rErr (m : List UInt64) : Int := if SizeOk m.length then (if is0 m = true ∨ is1 m = true then 0 else 50) else 8
/-- the copy that counts -/
def one (m : List UInt64) : List UInt64 := if is0 m = true then c0 m else c1 m
def sW (m : List UInt64) : Int := if rErr m = 0 then (m.length : Int) else 0
def sT (m : List UInt64) : Int := if rErr m = 0 then at3 (one m) else 0
def view (m : List UInt64) : List UInt64 := if rErr m = 0 then one m ++ (one m ++ m.drop 16) else []
def heals (m : List UInt64) : List (Int × UInt64) := if rErr m = 0 then (diffs m (view m)).map fun i => (i, (view m).getD i.toNat 0) else []
theorem c0_len {m : List UInt64} (h : SizeOk m.length) : (c0 m).length = 8 := by have := h.1; simp [c0]; omega
theorem c1_len {m : List UInt64} (h : SizeOk m.length) : (c1 m).length = 8 := by have := h.1; simp [c1]; omega
theorem rErr_ok {m : List UInt64} (h : rErr m = 0) : SizeOk m.length ∧ (is0 m = true ∨ is1 m = true) := by
  unfold rErr at h
  split at h
  · split at h
    · exact ⟨‹_›, ‹_›⟩
    · omega
  · omega
theorem rErr_mk {m : List UInt64} (h : SizeOk m.length) (h1 : is0 m = true ∨ is1 m = true) : rErr m = 0 := by rw [rErr, if_pos h, if_pos h1]
theorem rErr_no {m : List UInt64} (h : ¬ SizeOk m.length) : rErr m = 8 := if_neg h
theorem rErr_50 {m : List UInt64} (h : SizeOk m.length) (h0 : is0 m = false) (h1 : is1 m = false) : rErr m = 50 := by rw [rErr, if_pos h, if_neg (by simp [h0, h1])]
theorem is0_no {m : List UInt64} (h : ¬ SizeOk m.length) : is0 m = false := decide_eq_false (fun x => h x.1)
theorem is1_no {m : List UInt64} (h : ¬ SizeOk m.length) : is1 m = false := decide_eq_false (fun x => h x.1)
theorem is0_good {m : List UInt64} (h : SizeOk m.length) : is0 m = decide (CopyOk m.length (c0 m)) := by simp [is0, h]
theorem is1_good {m : List UInt64} (h : SizeOk m.length) : is1 m = decide (CopyOk m.length (c1 m)) := by simp [is1, h]
theorem one_good {m : List UInt64} (h : rErr m = 0) : CopyOk m.length (one m) := by
  obtain ⟨_, h1⟩ := rErr_ok h
  unfold one
  split
  · rename_i h0; exact (of_decide_eq_true h0).2
  · rename_i h0
    exact (of_decide_eq_true (h1.resolve_left h0)).2
theorem one_len {m : List UInt64} (h : rErr m = 0) : (one m).length = 8 := readOk_len (one_good h).1
theorem view_ok {m : List UInt64} (h : rErr m = 0) : view m = one m ++ (one m ++ m.drop 16) := if_pos h
theorem view_len {m : List UInt64} (h : rErr m = 0) : (view m).length = m.length := by
  have := (rErr_ok h).1.1
  rw [view_ok h]; simp [one_len h]; omega
section
variable {m a b : List UInt64}
end
/-- differences -/
theorem diffsTo_mem {a b : List UInt64} {k : Nat} {x : Int} (h : x ∈ diffsTo a b k) : ∃ i : Nat, x = (i : Int) ∧ i < k ∧ a[i]? ≠ b[i]? := by
  unfold diffsTo at h
  obtain ⟨i, hi, rfl⟩ := List.mem_map.1 h
  obtain ⟨h1, h2⟩ := List.mem_filter.1 hi
  exact ⟨i, rfl, List.mem_range.1 h1, of_decide_eq_true h2⟩
theorem diffsTo_more {a b : List UInt64} {n : Nat} (h : ∀ i, n ≤ i → a[i]? = b[i]?) : ∀ k, n ≤ k → diffsTo a b k = diffsTo a b n
  | 0, h0 => by rw [Nat.le_zero.1 h0]
  | k + 1, h0 => by
    by_cases hk : n = k + 1
    · rw [hk]
    · rw [diffsTo_succ, diffsTo_more h k (by omega), if_neg (by simp [h k (by omega)]), List.append_nil]
theorem diffsTo_congr {a b a' b' : List UInt64} {k : Nat} (h1 : ∀ i, i < k → a[i]? = a'[i]?) (h2 : ∀ i, i < k → b[i]? = b'[i]?) : diffsTo a b k = diffsTo a' b' k := by
  unfold diffsTo
  congr 1
  apply List.filter_congr
  intro i hi
  rw [h1 i (List.mem_range.1 hi), h2 i (List.mem_range.1 hi)]
section
variable {m : List UInt64}
theorem diff_ok (h : rErr m = 0) : diffErr m (view m) = 0 ∧ diffs m (view m) = diffsTo m (view m) m.length := by
  have h1 := (rErr_ok h).1
  have h2 := view_len h
  have e : diffErr m (view m) = 0 := by rw [diffErr, if_pos ⟨h1, by rw [h2]; exact h1⟩, if_pos h2.symm]
  exact ⟨e, if_pos e⟩
/-- behind the copies all is as it was -/
theorem view_far (h : rErr m = 0) {i : Nat} (hi : 16 ≤ i) : m[i]? = (view m)[i]? := by
  rw [view_ok h, List.getElem?_append_right (by rw [one_len h]; omega), List.getElem?_append_right (by rw [one_len h]; omega), List.getElem?_drop, one_len h]
  congr 1; omega
theorem heals_to (h : rErr m = 0) : heals m = (diffsTo m (view m) 16).map fun i => (i, (view m).getD i.toNat 0) := by
  have := (rErr_ok h).1.1
  rw [heals, if_pos h, (diff_ok h).2, diffsTo_more (fun i hi => view_far h hi) m.length (by omega)]
/-- TwinApart -/
theorem apart {k : Nat} (hk : 16 ≤ k) (x : UInt64) : rErr (m.set k x) = rErr m ∧ is0 (m.set k x) = is0 m ∧ is1 (m.set k x) = is1 m ∧ sW (m.set k x) = sW m ∧ sT (m.set k x) = sT m ∧ heals (m.set k x) = heals m := by
  have e0 : c0 (m.set k x) = c0 m := by rw [c0, List.take_set_of_le (by omega)]; rfl
  have e1 : c1 (m.set k x) = c1 m := by rw [c1, List.drop_set, if_neg (by omega), List.take_set_of_le (by omega)]; rfl
  have i0 : is0 (m.set k x) = is0 m := by unfold is0; rw [e0, List.length_set]
  have i1 : is1 (m.set k x) = is1 m := by unfold is1; rw [e1, List.length_set]
  have r : rErr (m.set k x) = rErr m := by unfold rErr; rw [i0, i1, List.length_set]
  have o : one (m.set k x) = one m := by unfold one; rw [i0, e0, e1]
  refine ⟨r, i0, i1, by unfold sW; rw [r, List.length_set], by unfold sT; rw [r, o], ?_⟩
  by_cases h : rErr m = 0
  · have h' : rErr (m.set k x) = 0 := r.trans h
    have ev : ∀ i, i < 16 → (view (m.set k x))[i]? = (view m)[i]? := fun i hi => by
      rw [view_ok h, view_ok h', o, ← List.append_assoc, ← List.append_assoc, List.getElem?_append_left (l₁ := one m ++ one m) (by simp [one_len h]; omega), List.getElem?_append_left (l₁ := one m ++ one m) (by simp [one_len h]; omega)]
    rw [heals_to h, heals_to h', diffsTo_congr (a' := m) (b' := view m) (fun i hi => by rw [List.getElem?_set_ne (by omega)]) ev]
    apply List.map_congr_left
    intro y hy
    obtain ⟨i, rfl, hi, _⟩ := diffsTo_mem hy
    simp only [Int.toNat_natCast, List.getD_eq_getElem?_getD, ev i hi]
  · rw [heals, if_neg (by rw [r]; exact h), heals, if_neg h]
end
/-- an image of zeros with a superblock in both copies -/
def made (W T : Int) : List UInt64 := wordsOf W T ++ (wordsOf W T ++ List.replicate (W.toNat - 16) 0)
theorem made_len {W T : Int} (h : SupOk W T) : (made W T).length = W.toNat := by
  have := h.1.1
  simp [made, len_words]; omega
end Go.Proofs.Ytiiilaojllmmiaa.L07
namespace Go.Proofs.Ytiiilaojllmmiaa.L18
open L02
theorem ws_set {l : List UInt64} {k : Nat} (x : UInt64) (hk : k < 16) : ws (l.set (112 + k) x) = (ws l).set k x := by
  unfold ws
  rw [List.drop_set, if_neg (by omega), show 112 + k - 112 = k by omega, List.take_set]
theorem slots_set {l : List UInt64} {k : Nat} (x : UInt64) (hk : k < 16) : slots (l.set (112 + k) x) = (slots l).set k (spl x) := by
  unfold slots
  rw [ws_set x hk, List.map_set]
theorem size_of {l : List UInt64} (h : openErr l = 0) : SizeOk l.length := by
  unfold openErr at h
  split at h
  · assumption
  · omega
theorem allR_of {l : List UInt64} (h : openErr l = 0) : AllR l := by
  unfold openErr at h
  split at h
  · split at h
    · assumption
    · omega
  · omega
theorem openErr_set {l : List UInt64} {k : Nat} {x : UInt64} (h : openErr l = 0) (hk : k < 16) (hx : Right (spl x)) : openErr (l.set (112 + k) x) = 0 := by
  have h1 := size_of h
  have h2 := allR_of h
  unfold openErr
  rw [List.length_set, if_pos h1, if_pos]
  intro y hy
  rw [ws_set x hk] at hy
  rcases List.mem_or_eq_of_mem_set hy with h3 | rfl
  · exact h2 y h3
  · exact hx
theorem slots_len' {l : List UInt64} (h : openErr l = 0) : (slots l).length = 16 := by
  have := (size_of h).1
  simp [slots, ws]; omega
theorem newErr_ok {l : List UInt64} {a : Int} (h : newErr l a = 0) : openErr l = 0 ∧ (128 ≤ a ∧ a < 2048) ∧ ∃ k, next (slots l) = some k := by
  unfold newErr at h
  split at h
  · rename_i h0
    split at h
    · rename_i h1
      split at h
      · omega
      · rename_i h2
        exact ⟨h0, h1, Option.ne_none_iff_exists'.1 h2⟩
    · omega
  · rename_i h0; exact absurd h h0
theorem nextFrom_some : ∀ {L : List Sl} {j k : Nat}, nextFrom L j = some k → j ≤ k ∧ (∃ s, L[k - j]? = some s ∧ s.used = false ∧ s.gen ≠ 2147483647) ∧ ∀ i s, i < k - j → L[i]? = some s → ¬ (s.used = false ∧ s.gen ≠ 2147483647)
  | [], _, _, h => by cases h
  | s :: L, j, k, h => by
    rw [nextFrom] at h
    split at h
    · rename_i h2
      injection h with h
      subst h
      exact ⟨Nat.le_refl _, ⟨s, by simp, h2⟩, fun i t hi => by omega⟩
    · rename_i h2
      obtain ⟨h1, ⟨t, h3, h4⟩, h5⟩ := nextFrom_some h
      refine ⟨by omega, ⟨t, by rw [show k - j = (k - (j + 1)) + 1 by omega, List.getElem?_cons_succ]; exact h3, h4⟩, fun i u hi hu => ?_⟩
      cases i with
      | zero => simp at hu; subst hu; exact h2
      | succ i => exact h5 i u (by omega) (by simpa using hu)
/-- what a new handle is -/
theorem new_spec {l : List UInt64} {a : Int} (h : newErr l a = 0) : ∃ (k : Nat) (s : Sl), k < 16 ∧ (slots l)[k]? = some s ∧ s.used = false ∧ s.gen ≠ 2147483647 ∧ Right s ∧ Right ⟨s.gen + 1, true, a⟩ ∧ newSlot l a = (k : Int) ∧ newGen l a = s.gen + 1 ∧ newAt l a = 112 + (k : Int) ∧ newVal l a = pk ⟨s.gen + 1, true, a⟩ ∧
    ∀ i t, i < k → (slots l)[i]? = some t → ¬ (t.used = false ∧ t.gen ≠ 2147483647) := by
  obtain ⟨h0, ha, k, hk⟩ := newErr_ok h
  obtain ⟨_, ⟨s, h1, h2, h3⟩, h4⟩ := nextFrom_some hk
  rw [Nat.sub_zero] at h1 h4
  have hk16 : k < 16 := by have := (List.getElem?_eq_some_iff.1 h1).1; rw [slots_len' h0] at this; exact this
  have hR : Right s := by
    obtain ⟨x, hx, hxs⟩ := List.mem_map.1 (List.mem_of_getElem? h1)
    rw [← hxs]; exact allR_of h0 x hx
  have e2 : newGen l a = s.gen + 1 := by rw [newGen, if_pos h, hk]; simp [List.getD_eq_getElem?_getD, h1]
  have g0 := hR.1; have g1 := hR.2.1
  refine ⟨k, s, hk16, h1, h2, h3, hR, ⟨by show 0 ≤ s.gen + 1; omega, by show s.gen + 1 ≤ 2147483647; omega, by simp, fun _ => ⟨by show 0 < s.gen + 1; omega, ha.1, ha.2⟩⟩, ?_, e2, ?_, ?_, h4⟩
  · rw [newSlot, if_pos h, hk]; rfl
  · rw [newAt, if_pos h, hk]; rfl
  · rw [newVal, if_pos h, e2]
theorem resErr_ok {l : List UInt64} {sl g : Int} (h : resErr l sl g = 0) : openErr l = 0 ∧ ∃ (k : Nat) (s : Sl), k < 16 ∧ sl = (k : Int) ∧ (slots l)[k]? = some s ∧ s.used = true ∧ s.gen = g ∧ Right s ∧ res l sl g = s.at_ := by
  have hr := h
  unfold resErr at h
  split at h
  · rename_i h0
    unfold rightErr at h
    rw [slots_len' h0] at h
    split at h
    · rename_i h1
      split at h
      · rename_i h2
        obtain ⟨k, rfl⟩ := Int.eq_ofNat_of_zero_le h1.1
        have hk : k < 16 := by omega
        have hs : (slots l)[k]? = some ((slots l)[k]'(by rw [slots_len' h0]; exact hk)) := List.getElem?_eq_getElem _
        have hgd : (slots l).getD (k : Int).toNat .none = (slots l)[k]'(by rw [slots_len' h0]; exact hk) := by simp [List.getD_eq_getElem?_getD, hs]
        rw [hgd] at h2
        refine ⟨h0, k, _, hk, rfl, hs, h2.1, h2.2, ?_, by rw [res, if_pos hr, hgd]⟩
        obtain ⟨x, hx, hxs⟩ := List.mem_map.1 (List.mem_of_getElem? hs)
        rw [← hxs]; exact allR_of h0 x hx
      · omega
    · omega
  · rename_i h0; exact absurd h h0
theorem resErr_at {l : List UInt64} {k : Nat} {s : Sl} (h : openErr l = 0) (hs : (slots l)[k]? = some s) (g : Int) : resErr l k g = (if s.used = true ∧ s.gen = g then 0 else 28) ∧ (s.used = true → s.gen = g → res l k g = s.at_) := by
  have hk : k < 16 := by have := (List.getElem?_eq_some_iff.1 hs).1; rw [slots_len' h] at this; exact this
  have hgd : (slots l).getD (k : Int).toNat .none = s := by simp [List.getD_eq_getElem?_getD, hs]
  have e : resErr l k g = (if s.used = true ∧ s.gen = g then 0 else 28) := by
    rw [resErr, if_pos h, rightErr, if_pos ⟨by omega, by rw [slots_len' h]; omega⟩, hgd]
  exact ⟨e, fun h1 h2 => by rw [res, e, if_pos (if_pos ⟨h1, h2⟩), hgd]⟩
theorem set_at {l : List UInt64} {k : Nat} {x : UInt64} (h : openErr l = 0) (hk : k < 16) : (slots (l.set (112 + k) x))[k]? = some (spl x) := by
  rw [slots_set x hk, List.getElem?_set_self (by rw [slots_len' h]; exact hk)]
theorem set_ne {l : List UInt64} {k i : Nat} {x : UInt64} (hk : k < 16) (hi : i ≠ k) : (slots (l.set (112 + k) x))[i]? = (slots l)[i]? := by
  rw [slots_set x hk, List.getElem?_set_ne (fun h => hi h.symm)]
end Go.Proofs.Ytiiilaojllmmiaa.L18
