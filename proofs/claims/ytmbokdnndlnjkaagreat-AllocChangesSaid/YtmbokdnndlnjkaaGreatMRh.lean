/- Contracts of the functions that the laws 'R' reach, part 8. No condition. -/
import Derived.Test.YtmbokdnndlnjkaaGreatMRg
set_option linter.unusedVariables false
set_option linter.unusedSimpArgs false
namespace Go.Proofs.YtmbokdnndlnjkaaGreat
open Go.RowKit L01 L02 L18
def entV (a : Int) (x : UInt64) : Value := .agg #[.int .i64 a, .int .u64 x.toNat]
theorem index_tab {L : List Sl} {k : Nat} {s : Sl} (hL : L.length = 16) (V : Array Value) (hV : V = tab L) (h : L[k]? = some s) (W : World) : (Instr.index 172 (.agg V) (.int .i64 (k : Int))).run Tryz.prog W = .ok (.agg #[.int .i64 s.gen, .bool s.used, .int .i64 s.at_]) W := by
  subst hV
  have hk : k < 16 := by have := (List.getElem?_eq_some_iff.1 h).1; omega
  obtain ⟨t0, t1, t2⟩ := tab_get3 h
  obtain ⟨i, hi, hsz⟩ := Option.map_eq_some_iff.1 size_slot
  have he : (tab L).extract (k * 3) (k * 3 + 3) = #[.int .i64 s.gen, .bool s.used, .int .i64 s.at_] := by
    apply Array.ext_getElem?
    intro j
    rw [Array.getElem?_extract]
    have hz : (tab L).size = 48 := by rw [tab_size, hL]
    match j with
    | 0 => rw [if_pos (by rw [hz]; omega)]; exact t0
    | 1 => rw [if_pos (by rw [hz]; omega)]; exact t1
    | 2 => rw [if_pos (by rw [hz]; omega)]; exact t2
    | j + 3 => rw [if_neg (by rw [hz]; omega)]; simp
  simp [Instr.index, run_underlying Tryz.underlying172, asIntOf, hk, sizeOf, typeInfo, go_sem, hi, hsz]
  exact he
set_option maxRecDepth 100000 in
set_option maxHeartbeats 1000000 in
theorem New18_ok (v : Value) (l : List UInt64) (a : Int) (w : World) (h : Words w v l) (h0 : openErr l = 0) (ha : 128 ≤ a ∧ a < 2048) :
    Calls Tryz.prog 68 #[v, .int .i64 a] w fun e w' => e = .returned (.tuple #[.agg #[.int .i64 (newSlot l a), .int .i64 (newGen l a)], entV (newAt l a) (newVal l a), .int .i64 (L18.newErr l a)]) ∧ Below w.heap.size w w' := by
  have B : Below w.heap.size w w := Below.refl _ _
  obtain ⟨V, hV⟩ : ∃ V, V = tab (tabOf l) := ⟨_, rfl⟩
  have OT := fun w h => open_any v l V hV 0 h0.symm w h
  have HOT := Lib.hid OT; have H := Lib.hid h; clear OT h
  have hVs : V.size = 48 := by rw [hV]; exact tabOf_size l
  have hV1 : V.all (·.oneCell') = true := by rw [hV]; exact tab_one _
  have HVs := Lib.hid hVs; have HV1 := Lib.hid hV1
  clear hVs hV1
  rw [tabOf_ok h0] at hV
  have HV := Lib.hid hV; have H0 := Lib.hid h0; have HA := Lib.hid ha
  obtain ⟨a1, a2⟩ := ha
  clear hV h0
  go_enter Tryz.func68, Tryz.ntmps68
  go_upto_region 1 with (fail)
  refine wp_gen (fun Wv => Bx Wv (w.heap.size) (39) (#[.int .i64 0, .int .i64 0]) ∧ Bx Wv (w.heap.size + 1) (120) (#[.int .i64 0, .int .u64 0]) ∧ Below w.heap.size w Wv) ⟨(((Bx.at_ (by simp)).alloc _)), ((Bx.at_ (by simp))), (((Below.refl _ w).alloc (by simp <;> omega) _).alloc (by simp <;> omega) _)⟩ ?_
  rintro w' ⟨g4, g5, b⟩
  replace B := B.trans (b.mono B.size); clear b
  have c_g4 := g4.cell; have f_g4 := g4.free; have a_g4 := fun o => (g4.alloc o).cell; have d_g4 := fun o o2 => ((g4.alloc o).alloc o2).cell; have e_g4 := fun o => (g4.alloc o).free
  have c_g5 := g5.cell; have f_g5 := g5.free; have a_g5 := fun o => (g5.alloc o).cell; have d_g5 := fun o o2 => ((g5.alloc o).alloc o2).cell; have e_g5 := fun o => (g5.alloc o).free
  go_wp2_with fail
  refine (HOT.out _ (H.out.below B)).mono ?_
  rintro e w' ⟨rfl, b⟩
  try clear c_g4 f_g4 a_g4 d_g4 e_g4
  replace g4 := g4.below b; have c_g4 := g4.cell; have f_g4 := g4.free; have a_g4 := fun o => (g4.alloc o).cell; have d_g4 := fun o o2 => ((g4.alloc o).alloc o2).cell; have e_g4 := fun o => (g4.alloc o).free; try clear c_g5 f_g5 a_g5 d_g5 e_g5
  replace g5 := g5.below b; have c_g5 := g5.cell; have f_g5 := g5.free; have a_g5 := fun o => (g5.alloc o).cell; have d_g5 := fun o o2 => ((g5.alloc o).alloc o2).cell; have e_g5 := fun o => (g5.alloc o).free; replace B := B.trans (b.mono B.size); clear b
  go_wp2_with (first
    | ((with_reducible refine at_store 172 7 15 ?_); refine wpList_storeNew rfl _ _ _ rfl rfl V rfl rfl (by rw [HVs.out]; exact size_table) (by rw [HVs.out]; rfl) HV1.out ?_; intro W q1 b1)
    | ((with_reducible refine at_load 30 172 7 ?_); refine wpList_loadRow rfl _ _ rfl _ rfl q1 _ Tryz.underlying172 rfl (by rw [HVs.out]; exact size_table) ?_))
  replace g4 := g4.below b1; replace g5 := g5.below b1; replace B := B.trans (b1.mono B.size)
  have HG := Lib.hid (And.intro g4 g5); have HB := Lib.hid B; clear q1 b1 B
  clear c_g4 f_g4 a_g4 d_g4 e_g4 c_g5 f_g5 a_g5 d_g5 e_g5
  clear g4 g5
  go_loopw [31] (fun i wr => ∃ k : Nat, k ≤ 16 ∧ i = .int .i64 k ∧ Hid ((Bx wr w.heap.size 39 #[.int .i64 0, .int .i64 0] ∧ Bx wr (w.heap.size + 1) 120 #[.int .i64 0, .int .u64 0]) ∧ nextFrom ((slots l).drop k) k = next (slots l)) ∧ Below w.heap.size w wr) (fun i _ => 16 - (intOf i).toNat)
  case atStart => exact ⟨0, by omega, rfl, Lib.hid ⟨HG.out, rfl⟩, HB.out⟩
  case round =>
    clear HG HB
    obtain ⟨k, hk, rfl, hh, B⟩ := hrel
    by_cases hlt : k < 16
    · obtain ⟨s, hs⟩ : ∃ s, (slots l)[k]? = some s := ⟨_, List.getElem?_eq_getElem (by rw [slots16 H0.out]; exact hlt)⟩
      have hix := index_tab (slots16 H0.out) V HV.out hs
      obtain ⟨⟨g4, g5⟩, hn⟩ := hh.out
      rw [List.drop_eq_getElem_cons (by rw [slots16 H0.out]; exact hlt)] at hn
      have HS := Lib.hid hs; have HN := Lib.hid hn; clear hs hn hh
      obtain ⟨gn, us, at_⟩ := s
      dsimp only at hix
      have hcase : (us = true ∨ us = false ∧ gn = 2147483647) ∨ (us = false ∧ (gn == 2147483647) = false) := by
        cases us
        · by_cases hg : gn = 2147483647
          · exact .inl (.inr ⟨rfl, hg⟩)
          · exact .inr ⟨rfl, by rw [beq_eq_false_iff_ne]; exact hg⟩
        · exact .inl (.inl rfl)
      have HIX := Lib.hid hix; clear hix
      rcases hcase with hcase | ⟨rfl, hne⟩
      · have hnx : nextFrom ((slots l).drop (k + 1)) (k + 1) = next (slots l) := by
          rw [← HN.out, nextFrom, if_neg]
          have e := HS.out
          rw [List.getElem?_eq_getElem (by rw [slots16 H0.out]; exact hlt)] at e
          injection e with e
          rw [e]
          rcases hcase with h | ⟨_, h⟩
          · exact fun h2 => by rw [h] at h2; exact absurd h2.1 (by simp)
          · exact fun h2 => h2.2 h
        have HNX := Lib.hid hnx; clear hnx
        have HG := Lib.hid (And.intro g4 g5); have HB := Lib.hid B; clear g4 g5 B
        have hix := HIX.out
        rcases hcase with rfl | ⟨rfl, rfl⟩
        all_goals
          go_wp2
          go_roundw
          case rel => exact ⟨k + 1, by omega, by go_num, Lib.hid ⟨⟨HG.out.1.alloc _, HG.out.2.alloc _⟩, HNX.out⟩, HB.out.alloc HB.out.size _⟩
          case measure => simp [intOf]; omega
      · have hnx : next (slots l) = some k := by
          rw [← HN.out, nextFrom, if_pos]
          have e := HS.out
          rw [List.getElem?_eq_getElem (by rw [slots16 H0.out]; exact hlt)] at e
          injection e with e
          rw [e]
          exact ⟨rfl, by simpa using hne⟩
        have hR : Right ⟨gn, false, at_⟩ := by
          have hall := H0.out
          unfold openErr at hall
          split at hall
          · split at hall
            · rename_i h2 h3
              have e := HS.out
              rw [slots, List.getElem?_map] at e
              obtain ⟨x, hx, hxe⟩ := Option.map_eq_some_iff.1 e
              rw [← hxe]; exact h3 x (List.mem_of_getElem? hx)
            · omega
          · omega
        have hR2 : Right ⟨gn + 1, true, a⟩ := ⟨by have := hR.1; simp at this ⊢; omega, by have := hR.2.1; simp at this hne ⊢; omega, by simp, fun _ => ⟨by have := hR.1; simp at this ⊢; omega, a1, a2⟩⟩
        have hg1 : 0 ≤ gn := hR.1
        have hg2 : gn < 2147483647 := by have := hR.2.1; simp at this hne; omega
        have herr : L18.newErr l a = 0 := by rw [L18.newErr, if_pos H0.out, if_pos HA.out, hnx]; rfl
        have e1 : newSlot l a = k := by rw [newSlot, if_pos herr, hnx]; rfl
        have e2 : newGen l a = gn + 1 := by rw [newGen, if_pos herr, hnx]; simp [List.getD_eq_getElem?_getD, HS.out]
        have e3 : newAt l a = 112 + k := by rw [newAt, if_pos herr, hnx]; rfl
        have e4 : newVal l a = pk ⟨gn + 1, true, a⟩ := by rw [newVal, if_pos herr, e2]
        obtain ⟨x, hx⟩ : ∃ x, x = pk ⟨gn + 1, true, a⟩ := ⟨_, rfl⟩
        have PT := fun w => pack_any ⟨gn + 1, true, a⟩ x hx hR2 w
        dsimp only at PT
        rw [← hx] at e4
        have HE := Lib.hid (And.intro herr (And.intro e1 (And.intro e2 (And.intro e3 e4)))); have HPT := Lib.hid PT
        clear hnx hR hR2 herr e1 e2 e3 e4 PT hx
        have hix := HIX.out
        have hsz := B.size
        have n4 : wr.heap.size + 1 ≠ w.heap.size := by omega
        have n5 : wr.heap.size + 1 ≠ w.heap.size + 1 := by have := g5.lt; omega
        go_wp2
        refine wp_gen (fun Wv => Bx Wv (wr.heap.size + 1) (37) (#[.int .i64 (gn + 1), .bool true, .int .i64 a]) ∧ Below wr.heap.size wr Wv) ⟨((Bx.at_ (by simp))), (((Below.refl _ wr).alloc (by simp <;> omega) _).alloc (by simp <;> omega) _)⟩ ?_
        rintro w' ⟨g11, b⟩
        try clear c_g4 f_g4 a_g4 d_g4 e_g4
        replace g4 := g4.below b; have c_g4 := g4.cell; have f_g4 := g4.free; have a_g4 := fun o => (g4.alloc o).cell; have d_g4 := fun o o2 => ((g4.alloc o).alloc o2).cell; have e_g4 := fun o => (g4.alloc o).free; try clear c_g5 f_g5 a_g5 d_g5 e_g5
        replace g5 := g5.below b; have c_g5 := g5.cell; have f_g5 := g5.free; have a_g5 := fun o => (g5.alloc o).cell; have d_g5 := fun o o2 => ((g5.alloc o).alloc o2).cell; have e_g5 := fun o => (g5.alloc o).free; replace B := B.trans (b.mono B.size); clear b
        have c_g11 := g11.cell; have f_g11 := g11.free; have a_g11 := fun o => (g11.alloc o).cell; have d_g11 := fun o o2 => ((g11.alloc o).alloc o2).cell; have e_g11 := fun o => (g11.alloc o).free
        clear hix
        have i0 := c_g11 0; have i1 := c_g11 1; have i2 := c_g11 2
        simp only [List.getElem?_toArray, List.getElem?_cons_zero, List.getElem?_cons_succ] at i0 i1 i2
        clear c_g11 f_g11 a_g11 d_g11 e_g11 c_g4 f_g4 a_g4 d_g4 e_g4 c_g5 f_g5 a_g5 d_g5 e_g5
        obtain ⟨W0, hW0⟩ : ∃ W0, W0 = w' := ⟨_, rfl⟩
        subst hW0
        have hwk : IntKind.i64.wrap (112 + (k : Int)) = 112 + (k : Int) := IntWalk.i64_in _ (by omega)
        go_region_held3 (fun Z => Z.cell? ⟨wr.heap.size + 1, 0, none⟩ = some (.int .i64 (gn + 1)) ∧ Z.cell? ⟨wr.heap.size + 1, 1, none⟩ = some (.bool true) ∧ Z.cell? ⟨wr.heap.size + 1, 2, none⟩ = some (.int .i64 a))
          (first
            | with_reducible exact ⟨j0, j1, j2⟩
            | with_reducible exact ⟨cell_far (cell_far j0 n4) n4, cell_far (cell_far j1 n4) n4, cell_far (cell_far j2 n4) n4⟩
            | with_reducible exact ⟨cell_far (cell_far (cell_far (cell_far j0 n4) n4) n5) n5, cell_far (cell_far (cell_far (cell_far j1 n4) n4) n5) n5, cell_far (cell_far (cell_far (cell_far j2 n4) n4) n5) n5⟩
            | exact ⟨i0, i1, i2⟩)
          ((go_at_call 113; (with_reducible refine (HPT.out _).mono ?_); rintro e W1 ⟨rfl, b⟩; have bb : Below W0.heap.size W0 W1 := ((Below.refl W0.heap.size W0).drew).trans b; have m11 := g11.below bb; have j0 : W1.cell? ⟨wr.heap.size + 1, 0, none⟩ = some (.int .i64 (gn + 1)) := m11.cell 0; have j1 : W1.cell? ⟨wr.heap.size + 1, 1, none⟩ = some (.bool true) := m11.cell 1; have j2 : W1.cell? ⟨wr.heap.size + 1, 2, none⟩ = some (.int .i64 a) := m11.cell 2; have m4 := g4.below bb; have m5 := g5.below bb; have k4 := m4.cell; have l4 := m4.free; have k5 := m5.cell; have l5 := m5.free))
        go_wp2
        refine bodyPost_ret (v := .tuple #[.agg #[.int .i64 k, .int .i64 (gn + 1)], .agg #[.int .i64 (112 + k), .int .u64 x.toNat], .int .i64 0]) (by simp [results, Tryz.results68, go_sem, k4, l4, k5, l5]) rfl ?_
        obtain ⟨e0, e1, e2, e3, e4⟩ := HE.out
        refine ⟨by rw [e0, e1, e2, e3, e4]; rfl, ?_⟩
        replace B := B.trans (bb.mono B.size)
        (repeat (first | refine Below.setCell ?_ (by first | exact Nat.le_refl _ | (simp <;> omega)) _ | refine Below.alloc ?_ (by first | exact B.size | (have := B.size; simp <;> omega)) _)); exact B
    · obtain rfl : k = 16 := by omega
      obtain ⟨⟨g4, g5⟩, hn⟩ := hh.out
      rw [List.drop_of_length_le (by rw [slots16 H0.out]; omega)] at hn
      have hnx : next (slots l) = none := hn.symm
      have herr : L18.newErr l a = 23 := by rw [L18.newErr, if_pos H0.out, if_pos HA.out, if_pos hnx]
      have e1 : newSlot l a = 0 := if_neg (by rw [herr]; omega)
      have e2 : newGen l a = 0 := if_neg (by rw [herr]; omega)
      have e3 : newAt l a = 0 := if_neg (by rw [herr]; omega)
      have e4 : newVal l a = 0 := if_neg (by rw [herr]; omega)
      have HE := Lib.hid (And.intro herr (And.intro e1 (And.intro e2 (And.intro e3 e4))))
      have k4 := g4.cell; have l4 := g4.free; have k5 := g5.cell; have l5 := g5.free
      clear hn hnx herr e1 e2 e3 e4 hh
      go_wp2
      refine bodyPost_ret (v := .tuple #[.agg #[.int .i64 0, .int .i64 0], .agg #[.int .i64 0, .int .u64 0], .int .i64 23]) (by simp [results, Tryz.results68, go_sem, k4, l4, k5, l5]) rfl ?_
      obtain ⟨e0, e1, e2, e3, e4⟩ := HE.out
      refine ⟨by rw [e0, e1, e2, e3, e4]; rfl, ?_⟩
      (repeat (first | refine Below.setCell ?_ (by first | exact Nat.le_refl _ | (simp <;> omega)) _ | refine Below.alloc ?_ (by first | exact B.size | (have := B.size; simp <;> omega)) _)); exact B
set_option maxRecDepth 100000 in
set_option maxHeartbeats 1000000 in
theorem New18_any (v : Value) (l : List UInt64) (a sl g ea : Int) (ev : UInt64) (r : Int) (h1 : sl = newSlot l a) (h2 : g = newGen l a) (h3 : ea = newAt l a) (h4 : ev = newVal l a) (h5 : r = L18.newErr l a) (w : World) (h : Words w v l) :
    Calls Tryz.prog 68 #[v, .int .i64 a] w fun e w' => e = .returned (.tuple #[.agg #[.int .i64 sl, .int .i64 g], .agg #[.int .i64 ea, .int .u64 ev.toNat], .int .i64 r]) ∧ Below w.heap.size w w' := by
  by_cases h0 : openErr l = 0
  · by_cases ha : 128 ≤ a ∧ a < 2048
    · subst h1 h2 h3 h4 h5
      exact New18_ok v l a w h h0 ha
    · have herr : L18.newErr l a = 2 := by rw [L18.newErr, if_pos h0, if_neg ha]
      have e1 : sl = 0 := h1.trans (if_neg (by rw [herr]; omega))
      have e2 : g = 0 := h2.trans (if_neg (by rw [herr]; omega))
      have e3 : ea = 0 := h3.trans (if_neg (by rw [herr]; omega))
      have e4 : ev = 0 := h4.trans (if_neg (by rw [herr]; omega))
      rw [herr] at h5
      clear h1 h2 h3 h4 herr
      subst e1 e2 e3 e4 h5
      have B : Below w.heap.size w w := Below.refl _ _
      obtain ⟨V, hV⟩ : ∃ V, V = tab (tabOf l) := ⟨_, rfl⟩
      have OT := fun w h => open_any v l V hV 0 h0.symm w h
      have HOT := Lib.hid OT; have H := Lib.hid h; clear OT h
      have hVs : V.size = 48 := by rw [hV]; exact tabOf_size l
      have hV1 : V.all (·.oneCell') = true := by rw [hV]; exact tab_one _
      have HVs := Lib.hid hVs; have HV1 := Lib.hid hV1
      clear hVs hV1 hV h0
      have hcase : a < 128 ∨ 128 ≤ a ∧ 2048 ≤ a := by omega
      clear ha
      rcases hcase with a1 | ⟨a1, a2⟩
      all_goals
        go_enter Tryz.func68, Tryz.ntmps68
        go_upto_region 1 with (fail)
        refine wp_gen (fun Wv => Bx Wv (w.heap.size) (39) (#[.int .i64 0, .int .i64 0]) ∧ Bx Wv (w.heap.size + 1) (120) (#[.int .i64 0, .int .u64 0]) ∧ Below w.heap.size w Wv) ⟨(((Bx.at_ (by simp)).alloc _)), ((Bx.at_ (by simp))), (((Below.refl _ w).alloc (by simp <;> omega) _).alloc (by simp <;> omega) _)⟩ ?_
        rintro w' ⟨g4, g5, b⟩
        replace B := B.trans (b.mono B.size); clear b
        have c_g4 := g4.cell; have f_g4 := g4.free; have a_g4 := fun o => (g4.alloc o).cell; have d_g4 := fun o o2 => ((g4.alloc o).alloc o2).cell; have e_g4 := fun o => (g4.alloc o).free
        have c_g5 := g5.cell; have f_g5 := g5.free; have a_g5 := fun o => (g5.alloc o).cell; have d_g5 := fun o o2 => ((g5.alloc o).alloc o2).cell; have e_g5 := fun o => (g5.alloc o).free
        go_wp2_with fail
        refine (HOT.out _ (H.out.below B)).mono ?_
        rintro e w' ⟨rfl, b⟩
        try clear c_g4 f_g4 a_g4 d_g4 e_g4
        replace g4 := g4.below b; have c_g4 := g4.cell; have f_g4 := g4.free; have a_g4 := fun o => (g4.alloc o).cell; have d_g4 := fun o o2 => ((g4.alloc o).alloc o2).cell; have e_g4 := fun o => (g4.alloc o).free; try clear c_g5 f_g5 a_g5 d_g5 e_g5
        replace g5 := g5.below b; have c_g5 := g5.cell; have f_g5 := g5.free; have a_g5 := fun o => (g5.alloc o).cell; have d_g5 := fun o o2 => ((g5.alloc o).alloc o2).cell; have e_g5 := fun o => (g5.alloc o).free; replace B := B.trans (b.mono B.size); clear b
        go_wp2_with ((with_reducible refine at_store 172 7 15 ?_); refine wpList_storeNew rfl _ _ _ rfl rfl V rfl rfl (by rw [HVs.out]; exact size_table) (by rw [HVs.out]; rfl) HV1.out ?_; intro W q1 b1; have k4 := (g4.below b1).cell; have l4 := (g4.below b1).free; have k5 := (g5.below b1).cell; have l5 := (g5.below b1).free)
        refine bodyPost_ret (v := .tuple #[.agg #[.int .i64 0, .int .i64 0], .agg #[.int .i64 0, .int .u64 0], .int .i64 2]) (by simp [results, Tryz.results68, go_sem, k4, l4, k5, l5]) rfl ⟨rfl, ?_⟩
        replace B := B.trans (b1.mono B.size)
        (repeat (first | refine Below.setCell ?_ (by first | exact Nat.le_refl _ | (simp <;> omega)) _ | refine Below.alloc ?_ (by first | exact B.size | (have := B.size; simp <;> omega)) _)); exact B
  · have herr : L18.newErr l a = openErr l := by rw [L18.newErr, if_neg h0]
    have e1 : sl = 0 := h1.trans (if_neg (by rw [herr]; exact h0))
    have e2 : g = 0 := h2.trans (if_neg (by rw [herr]; exact h0))
    have e3 : ea = 0 := h3.trans (if_neg (by rw [herr]; exact h0))
    have e4 : ev = 0 := h4.trans (if_neg (by rw [herr]; exact h0))
    rw [herr] at h5
    clear h1 h2 h3 h4 herr
    subst e1 e2 e3 e4
    have B : Below w.heap.size w w := Below.refl _ _
    obtain ⟨V, hV⟩ : ∃ V, V = tab (tabOf l) := ⟨_, rfl⟩
    have OT := fun w h => open_any v l V hV r h5 w h
    have HOT := Lib.hid OT; have H := Lib.hid h; clear OT h
    have hVs : V.size = 48 := by rw [hV]; exact tabOf_size l
    have hV1 : V.all (·.oneCell') = true := by rw [hV]; exact tab_one _
    have HVs := Lib.hid hVs; have HV1 := Lib.hid hV1
    have hne : (r != 0) = true := by rw [bne_iff_ne, h5]; exact h0
    clear hVs hV1 hV h0 h5
    go_enter Tryz.func68, Tryz.ntmps68
    go_upto_region 1 with (fail)
    refine wp_gen (fun Wv => Bx Wv (w.heap.size) (39) (#[.int .i64 0, .int .i64 0]) ∧ Bx Wv (w.heap.size + 1) (120) (#[.int .i64 0, .int .u64 0]) ∧ Below w.heap.size w Wv) ⟨(((Bx.at_ (by simp)).alloc _)), ((Bx.at_ (by simp))), (((Below.refl _ w).alloc (by simp <;> omega) _).alloc (by simp <;> omega) _)⟩ ?_
    rintro w' ⟨g4, g5, b⟩
    replace B := B.trans (b.mono B.size); clear b
    have c_g4 := g4.cell; have f_g4 := g4.free; have a_g4 := fun o => (g4.alloc o).cell; have d_g4 := fun o o2 => ((g4.alloc o).alloc o2).cell; have e_g4 := fun o => (g4.alloc o).free
    have c_g5 := g5.cell; have f_g5 := g5.free; have a_g5 := fun o => (g5.alloc o).cell; have d_g5 := fun o o2 => ((g5.alloc o).alloc o2).cell; have e_g5 := fun o => (g5.alloc o).free
    go_wp2_with fail
    refine (HOT.out _ (H.out.below B)).mono ?_
    rintro e w' ⟨rfl, b⟩
    try clear c_g4 f_g4 a_g4 d_g4 e_g4
    replace g4 := g4.below b; have c_g4 := g4.cell; have f_g4 := g4.free; have a_g4 := fun o => (g4.alloc o).cell; have d_g4 := fun o o2 => ((g4.alloc o).alloc o2).cell; have e_g4 := fun o => (g4.alloc o).free; try clear c_g5 f_g5 a_g5 d_g5 e_g5
    replace g5 := g5.below b; have c_g5 := g5.cell; have f_g5 := g5.free; have a_g5 := fun o => (g5.alloc o).cell; have d_g5 := fun o o2 => ((g5.alloc o).alloc o2).cell; have e_g5 := fun o => (g5.alloc o).free; replace B := B.trans (b.mono B.size); clear b
    go_wp2_with ((with_reducible refine at_store 172 7 15 ?_); refine wpList_storeNew rfl _ _ _ rfl rfl V rfl rfl (by rw [HVs.out]; exact size_table) (by rw [HVs.out]; rfl) HV1.out ?_; intro W q1 b1; have k4 := (g4.below b1).cell; have l4 := (g4.below b1).free; have k5 := (g5.below b1).cell; have l5 := (g5.below b1).free)
    refine bodyPost_ret (v := .tuple #[.agg #[.int .i64 0, .int .i64 0], .agg #[.int .i64 0, .int .u64 0], .int .i64 r]) (by simp [results, Tryz.results68, go_sem, k4, l4, k5, l5]) rfl ⟨rfl, ?_⟩
    replace B := B.trans (b1.mono B.size)
    (repeat (first | refine Below.setCell ?_ (by first | exact Nat.le_refl _ | (simp <;> omega)) _ | refine Below.alloc ?_ (by first | exact B.size | (have := B.size; simp <;> omega)) _)); exact B
end Go.Proofs.YtmbokdnndlnjkaaGreat
namespace Go.Proofs.YtmbokdnndlnjkaaGreat
open Go.RowKit L01 L02 L18
theorem right_of {l : List UInt64} (h0 : openErr l = 0) : ∀ s ∈ slots l, Right s := by
  intro s hs
  obtain ⟨x, hx, rfl⟩ := List.mem_map.1 hs
  unfold openErr at h0
  split at h0
  · split at h0
    · rename_i h2 h3; exact h3 x hx
    · omega
  · omega
theorem rightErr_ok {L : List Sl} {sl g : Int} (h : rightErr L sl g = 0) : 0 ≤ sl ∧ sl < L.length ∧ ∃ s, L[sl.toNat]? = some s ∧ s.used = true ∧ s.gen = g := by
  unfold rightErr at h
  split at h
  · rename_i h1
    split at h
    · rename_i h2
      refine ⟨h1.1, h1.2, _, List.getElem?_eq_getElem (by omega), ?_⟩
      rw [List.getD_eq_getElem?_getD, List.getElem?_eq_getElem (by omega)] at h2
      exact h2
    · omega
  · omega
theorem drop_right {l : List UInt64} {sl g : Int} (h0 : openErr l = 0) (h : rightErr (slots l) sl g = 0) : Right ⟨g, false, 0⟩ ∧ 0 ≤ sl ∧ sl < 16 := by
  obtain ⟨h1, h2, s, h3, h4, h5⟩ := rightErr_ok h
  have hR := right_of h0 s (List.mem_of_getElem? h3)
  rw [slots16 h0] at h2
  refine ⟨⟨?_, ?_, fun _ => rfl, fun h => by simp at h⟩, h1, h2⟩
  · rw [← h5]; exact hR.1
  · rw [← h5]; exact hR.2.1
set_option maxRecDepth 100000 in
set_option maxHeartbeats 1000000 in
theorem Drop18_any (v : Value) (l : List UInt64) (sl g ea : Int) (ev : UInt64) (r : Int) (h1 : ea = dropAt l sl g) (h2 : ev = dropVal l sl g) (h3 : r = resErr l sl g) (w : World) (h : Words w v l) :
    Calls Tryz.prog 56 #[v, .agg #[.int .i64 sl, .int .i64 g]] w fun e w' => e = .returned (.tuple #[.agg #[.int .i64 ea, .int .u64 ev.toNat], .int .i64 r]) ∧ Below w.heap.size w w' := by
  have B : Below w.heap.size w w := Below.refl _ _
  obtain ⟨V, hV⟩ : ∃ V, V = tab (tabOf l) := ⟨_, rfl⟩
  obtain ⟨oe, hoe⟩ : ∃ oe, oe = openErr l := ⟨_, rfl⟩
  have OT := fun w h => open_any v l V hV oe hoe w h
  have HOT := Lib.hid OT; have H := Lib.hid h; clear OT h
  have hVs : V.size = 48 := by rw [hV]; exact tabOf_size l
  have hV1 : V.all (·.oneCell') = true := by rw [hV]; exact tab_one _
  have HVs := Lib.hid hVs; have HV1 := Lib.hid hV1
  clear hVs hV1
  by_cases h0 : openErr l = 0
  · have hr0 : r = rightErr (slots l) sl g := by rw [h3, resErr, if_pos h0]
    obtain ⟨s, hs⟩ : ∃ s, s = findS (slots l) sl g := ⟨_, rfl⟩
    have FT := fun w => find_any (slots l) (slots16 h0) V (by rw [hV, tabOf_ok h0]) sl g s r hs hr0 w
    have HFT := Lib.hid FT
    rw [h0] at hoe
    subst hoe
    by_cases hrr : r = 0
    · obtain ⟨hR, p1, p2⟩ := drop_right h0 (by rw [← hr0]; exact hrr)
      have e1 : ea = 112 + sl := by rw [h1, dropAt, if_pos (by rw [← h3]; exact hrr)]
      have e2 : ev = pk ⟨g, false, 0⟩ := by rw [h2, dropVal, if_pos (by rw [← h3]; exact hrr)]
      have PT := fun w => pack_any ⟨g, false, 0⟩ ev e2 hR w
      dsimp only at PT
      have HPT := Lib.hid PT
      have q0 := hR.1; have q1 := hR.2.1
      dsimp only at q0 q1
      clear FT h0 hV hs hr0 h1 h2 h3 hR e2 PT
      subst e1 hrr
      go_enter Tryz.func56, Tryz.ntmps56
      go_upto_region 1 with (fail)
      refine wp_gen (fun Wv => Bx Wv (w.heap.size) (39) (#[.int .i64 sl, .int .i64 g]) ∧ Bx Wv (w.heap.size + 1) (120) (#[.int .i64 0, .int .u64 0]) ∧ Below w.heap.size w Wv) ⟨(((Bx.at_ (by simp)).alloc _)), ((Bx.at_ (by simp))), (((Below.refl _ w).alloc (by simp <;> omega) _).alloc (by simp <;> omega) _)⟩ ?_
      rintro w' ⟨g3, g4, b⟩
      replace B := B.trans (b.mono B.size); clear b
      have c_g3 := g3.cell; have f_g3 := g3.free; have a_g3 := fun o => (g3.alloc o).cell; have d_g3 := fun o o2 => ((g3.alloc o).alloc o2).cell; have e_g3 := fun o => (g3.alloc o).free
      have c_g4 := g4.cell; have f_g4 := g4.free; have a_g4 := fun o => (g4.alloc o).cell; have d_g4 := fun o o2 => ((g4.alloc o).alloc o2).cell; have e_g4 := fun o => (g4.alloc o).free
      go_wp2_with fail
      refine (HOT.out _ (H.out.below B)).mono ?_
      rintro e w' ⟨rfl, b⟩
      try clear c_g3 f_g3 a_g3 d_g3 e_g3
      replace g3 := g3.below b; have c_g3 := g3.cell; have f_g3 := g3.free; have a_g3 := fun o => (g3.alloc o).cell; have d_g3 := fun o o2 => ((g3.alloc o).alloc o2).cell; have e_g3 := fun o => (g3.alloc o).free; try clear c_g4 f_g4 a_g4 d_g4 e_g4
      replace g4 := g4.below b; have c_g4 := g4.cell; have f_g4 := g4.free; have a_g4 := fun o => (g4.alloc o).cell; have d_g4 := fun o o2 => ((g4.alloc o).alloc o2).cell; have e_g4 := fun o => (g4.alloc o).free; replace B := B.trans (b.mono B.size); clear b
      go_wp2_with (first
        | ((with_reducible refine at_store 172 6 13 ?_); refine wpList_storeNew rfl _ _ _ rfl rfl V rfl rfl (by rw [HVs.out]; exact size_table) (by rw [HVs.out]; rfl) HV1.out ?_; intro W q1 b1; have k1 := (g3.below b1).cell)
        | ((with_reducible refine at_load 20 172 6 ?_); refine wpList_loadRow rfl _ _ rfl _ rfl q1 _ Tryz.underlying172 rfl (by rw [HVs.out]; exact size_table) ?_))
      refine (HFT.out _).mono ?_
      rintro e w2 ⟨rfl, b⟩
      replace B := (B.trans (b1.mono B.size)).trans (b.mono (Nat.le_trans B.size b1.size))
      replace g3 := (g3.below b1).below b; replace g4 := (g4.below b1).below b
      clear k1 b b1 q1 c_g3 f_g3 a_g3 d_g3 e_g3 c_g4 f_g4 a_g4 d_g4 e_g4
      go_wp2
      refine wp_gen (fun Wv => Below w2.heap.size w2 Wv) ((Below.refl _ w2).alloc (by simp <;> omega) _) ?_
      intro w' b
      try clear c_g3 f_g3 a_g3 d_g3 e_g3
      replace g3 := g3.below b; have c_g3 := g3.cell; have f_g3 := g3.free; have a_g3 := fun o => (g3.alloc o).cell; have d_g3 := fun o o2 => ((g3.alloc o).alloc o2).cell; have e_g3 := fun o => (g3.alloc o).free; try clear c_g4 f_g4 a_g4 d_g4 e_g4
      replace g4 := g4.below b; have c_g4 := g4.cell; have f_g4 := g4.free; have a_g4 := fun o => (g4.alloc o).cell; have d_g4 := fun o o2 => ((g4.alloc o).alloc o2).cell; have e_g4 := fun o => (g4.alloc o).free; replace B := B.trans (b.mono B.size); clear b
      have i0 : w'.cell? ⟨w.heap.size, 0, none⟩ = some (.int .i64 sl) := g3.cell 0
      have i1 : w'.cell? ⟨w.heap.size, 1, none⟩ = some (.int .i64 g) := g3.cell 1
      clear c_g3 f_g3 a_g3 d_g3 e_g3 c_g4 f_g4 a_g4 d_g4 e_g4
      have n4 : w.heap.size ≠ w.heap.size + 1 := by omega
      have hwk : IntKind.i64.wrap (112 + sl) = 112 + sl := IntWalk.i64_in _ (by omega)
      obtain ⟨W0, hW0⟩ : ∃ W0, W0 = w' := ⟨_, rfl⟩
      subst hW0
      go_region_held3 (fun Z => Z.cell? ⟨w.heap.size, 0, none⟩ = some (.int .i64 sl) ∧ Z.cell? ⟨w.heap.size, 1, none⟩ = some (.int .i64 g))
        (first
          | with_reducible exact ⟨j0, j1⟩
          | with_reducible exact ⟨cell_far (cell_far j0 n4) n4, cell_far (cell_far j1 n4) n4⟩
          | exact ⟨i0, i1⟩)
        ((go_at_call 113; (with_reducible refine (HPT.out _).mono ?_); rintro e W1 ⟨rfl, b⟩; have bb : Below W0.heap.size W0 W1 := ((Below.refl W0.heap.size W0).drew).trans b; have m3 := g3.below bb; have j0 : W1.cell? ⟨w.heap.size, 0, none⟩ = some (.int .i64 sl) := m3.cell 0; have j1 : W1.cell? ⟨w.heap.size, 1, none⟩ = some (.int .i64 g) := m3.cell 1; have m4 := g4.below bb; have k4 := m4.cell; have l4 := m4.free))
      go_wp2
      refine bodyPost_ret (v := .tuple #[.agg #[.int .i64 (112 + sl), .int .u64 ev.toNat], .int .i64 0]) (by simp [results, Tryz.results56, go_sem, k4, l4]) rfl ⟨rfl, ?_⟩
      replace B := B.trans (bb.mono B.size)
      (repeat (first | refine Below.setCell ?_ (by first | exact Nat.le_refl _ | (simp <;> omega)) _ | refine Below.alloc ?_ (by first | exact B.size | (have := B.size; simp <;> omega)) _)); exact B
    · have hne : (r != 0) = true := by rw [bne_iff_ne]; exact hrr
      have e1 : ea = 0 := by rw [h1, dropAt, if_neg (by rw [← h3]; exact hrr)]
      have e2 : ev = 0 := by rw [h2, dropVal, if_neg (by rw [← h3]; exact hrr)]
      clear FT h0 hV hs hr0 h1 h2 h3 hrr
      subst e1 e2
      go_enter Tryz.func56, Tryz.ntmps56
      go_upto_region 1 with (fail)
      refine wp_gen (fun Wv => Bx Wv (w.heap.size) (39) (#[.int .i64 sl, .int .i64 g]) ∧ Bx Wv (w.heap.size + 1) (120) (#[.int .i64 0, .int .u64 0]) ∧ Below w.heap.size w Wv) ⟨(((Bx.at_ (by simp)).alloc _)), ((Bx.at_ (by simp))), (((Below.refl _ w).alloc (by simp <;> omega) _).alloc (by simp <;> omega) _)⟩ ?_
      rintro w' ⟨g3, g4, b⟩
      replace B := B.trans (b.mono B.size); clear b
      have c_g3 := g3.cell; have f_g3 := g3.free; have a_g3 := fun o => (g3.alloc o).cell; have d_g3 := fun o o2 => ((g3.alloc o).alloc o2).cell; have e_g3 := fun o => (g3.alloc o).free
      have c_g4 := g4.cell; have f_g4 := g4.free; have a_g4 := fun o => (g4.alloc o).cell; have d_g4 := fun o o2 => ((g4.alloc o).alloc o2).cell; have e_g4 := fun o => (g4.alloc o).free
      go_wp2_with fail
      refine (HOT.out _ (H.out.below B)).mono ?_
      rintro e w' ⟨rfl, b⟩
      try clear c_g3 f_g3 a_g3 d_g3 e_g3
      replace g3 := g3.below b; have c_g3 := g3.cell; have f_g3 := g3.free; have a_g3 := fun o => (g3.alloc o).cell; have d_g3 := fun o o2 => ((g3.alloc o).alloc o2).cell; have e_g3 := fun o => (g3.alloc o).free; try clear c_g4 f_g4 a_g4 d_g4 e_g4
      replace g4 := g4.below b; have c_g4 := g4.cell; have f_g4 := g4.free; have a_g4 := fun o => (g4.alloc o).cell; have d_g4 := fun o o2 => ((g4.alloc o).alloc o2).cell; have e_g4 := fun o => (g4.alloc o).free; replace B := B.trans (b.mono B.size); clear b
      go_wp2_with (first
        | ((with_reducible refine at_store 172 6 13 ?_); refine wpList_storeNew rfl _ _ _ rfl rfl V rfl rfl (by rw [HVs.out]; exact size_table) (by rw [HVs.out]; rfl) HV1.out ?_; intro W q1 b1; have k1 := (g3.below b1).cell)
        | ((with_reducible refine at_load 20 172 6 ?_); refine wpList_loadRow rfl _ _ rfl _ rfl q1 _ Tryz.underlying172 rfl (by rw [HVs.out]; exact size_table) ?_))
      refine (HFT.out _).mono ?_
      rintro e w2 ⟨rfl, b⟩
      replace B := (B.trans (b1.mono B.size)).trans (b.mono (Nat.le_trans B.size b1.size))
      replace g4 := (g4.below b1).below b
      clear k1 b b1 q1 c_g3 f_g3 a_g3 d_g3 e_g3 c_g4 f_g4 a_g4 d_g4 e_g4
      have k4 := g4.cell; have l4 := g4.free; have m4 := fun o => (g4.alloc o).cell; have n4 := fun o => (g4.alloc o).free
      go_wp2
      refine bodyPost_ret (v := .tuple #[.agg #[.int .i64 0, .int .u64 0], .int .i64 r]) (by simp [results, Tryz.results56, go_sem, k4, l4, m4, n4]) rfl ⟨rfl, ?_⟩
      (repeat (first | refine Below.setCell ?_ (by first | exact Nat.le_refl _ | (simp <;> omega)) _ | refine Below.alloc ?_ (by first | exact B.size | (have := B.size; simp <;> omega)) _)); exact B
  · have hne : (oe != 0) = true := by rw [bne_iff_ne, hoe]; exact h0
    have hr0 : r = oe := by rw [h3, resErr, if_neg h0, hoe]
    have hrr : ¬ resErr l sl g = 0 := by rw [resErr, if_neg h0]; exact h0
    have e1 : ea = 0 := by rw [h1, dropAt, if_neg hrr]
    have e2 : ev = 0 := by rw [h2, dropVal, if_neg hrr]
    clear h0 hV hoe h1 h2 h3 hrr
    subst hr0 e1 e2
    go_enter Tryz.func56, Tryz.ntmps56
    go_upto_region 1 with (fail)
    refine wp_gen (fun Wv => Bx Wv (w.heap.size) (39) (#[.int .i64 sl, .int .i64 g]) ∧ Bx Wv (w.heap.size + 1) (120) (#[.int .i64 0, .int .u64 0]) ∧ Below w.heap.size w Wv) ⟨(((Bx.at_ (by simp)).alloc _)), ((Bx.at_ (by simp))), (((Below.refl _ w).alloc (by simp <;> omega) _).alloc (by simp <;> omega) _)⟩ ?_
    rintro w' ⟨g3, g4, b⟩
    replace B := B.trans (b.mono B.size); clear b
    have c_g3 := g3.cell; have f_g3 := g3.free; have a_g3 := fun o => (g3.alloc o).cell; have d_g3 := fun o o2 => ((g3.alloc o).alloc o2).cell; have e_g3 := fun o => (g3.alloc o).free
    have c_g4 := g4.cell; have f_g4 := g4.free; have a_g4 := fun o => (g4.alloc o).cell; have d_g4 := fun o o2 => ((g4.alloc o).alloc o2).cell; have e_g4 := fun o => (g4.alloc o).free
    go_wp2_with fail
    refine (HOT.out _ (H.out.below B)).mono ?_
    rintro e w' ⟨rfl, b⟩
    try clear c_g3 f_g3 a_g3 d_g3 e_g3
    replace g3 := g3.below b; have c_g3 := g3.cell; have f_g3 := g3.free; have a_g3 := fun o => (g3.alloc o).cell; have d_g3 := fun o o2 => ((g3.alloc o).alloc o2).cell; have e_g3 := fun o => (g3.alloc o).free; try clear c_g4 f_g4 a_g4 d_g4 e_g4
    replace g4 := g4.below b; have c_g4 := g4.cell; have f_g4 := g4.free; have a_g4 := fun o => (g4.alloc o).cell; have d_g4 := fun o o2 => ((g4.alloc o).alloc o2).cell; have e_g4 := fun o => (g4.alloc o).free; replace B := B.trans (b.mono B.size); clear b
    go_wp2_with ((with_reducible refine at_store 172 6 13 ?_); refine wpList_storeNew rfl _ _ _ rfl rfl V rfl rfl (by rw [HVs.out]; exact size_table) (by rw [HVs.out]; rfl) HV1.out ?_; intro W q1 b1; have k4 := (g4.below b1).cell; have l4 := (g4.below b1).free)
    refine bodyPost_ret (v := .tuple #[.agg #[.int .i64 0, .int .u64 0], .int .i64 r]) (by simp [results, Tryz.results56, go_sem, k4, l4]) rfl ⟨rfl, ?_⟩
    replace B := B.trans (b1.mono B.size)
    (repeat (first | refine Below.setCell ?_ (by first | exact Nat.le_refl _ | (simp <;> omega)) _ | refine Below.alloc ?_ (by first | exact B.size | (have := B.size; simp <;> omega)) _)); exact B
end Go.Proofs.YtmbokdnndlnjkaaGreat
namespace Go.Proofs.YtmbokdnndlnjkaaGreat
open Go.RowKit L01 L02 L18
theorem Slots.at_ {P : Program} {w : World} {v : Value} {L : List Sl} {t e : TypeId} (h : Slots w v L) (ht : P.underlying t = some (.slice e)) (hi : (P.info? e).map (·.size) = some 3) {k : Nat} (hk : k < L.length) :
    ∃ b o s, (∀ W, (Instr.indexAt t v (.int .i64 (k : Int))).run P W = .ok (.pointer (some ⟨b, o, none⟩)) W) ∧ w.cell? ⟨b, o, none⟩ = some (.int .i64 s.gen) ∧ w.cell? ⟨b, o + 1, none⟩ = some (.bool s.used) ∧ w.cell? ⟨b, o + 2, none⟩ = some (.int .i64 s.at_) ∧ Hid (L[k]? = some s) := by
  have hix := fun W => Rd.ixN h ht hi hk W
  obtain ⟨b, o, c, rfl, hb, hc, hcell⟩ := Rd.form h (by omega)
  have hs : L[k]? = some L[k] := List.getElem?_eq_getElem hk
  have t0 := tabL_get L k _ hs 0 (by omega)
  have t1 := tabL_get L k _ hs 1 (by omega)
  have t2 := tabL_get L k _ hs 2 (by omega)
  refine ⟨b, o + k * 3, L[k], fun W => hix W, hcell _ _ t0, hcell _ _ t1, hcell _ _ t2, Lib.hid hs⟩
set_option maxRecDepth 100000 in
set_option maxHeartbeats 1000000 in
theorem RightR_any (v : Value) (L : List Sl) (sl g : Int) (r : Int) (hr : r = rightErr L sl g) (w : World) (h : Slots w v L) :
    Calls Tryz.prog 44 #[v, .agg #[.int .i64 sl, .int .i64 g]] w fun e w' => e = .returned (.int .i64 r) ∧ Below w.heap.size w w' := by
  have B : Below w.heap.size w w := Below.refl _ _
  have l1 := Rd.len h Tryz.underlying29
  obtain ⟨N, hN⟩ : ∃ N, N = L.length := ⟨_, rfl⟩
  rw [← hN] at l1
  by_cases hin : 0 ≤ sl ∧ sl < N
  · obtain ⟨h0, h1⟩ := hin
    obtain ⟨k, rfl⟩ := Int.eq_ofNat_of_zero_le h0
    obtain ⟨b, o, s, ia, m0, m1, m2, hs⟩ := h.at_ (P := Tryz.prog) Tryz.underlying29 size_slot (k := k) (by omega)
    have hgd : L.getD (k : Int).toNat .none = s := by simp [List.getD_eq_getElem?_getD, hs.out]
    have hrr : r = if s.used = true ∧ s.gen = g then 0 else 28 := by rw [hr, rightErr, if_pos (by omega), hgd]
    clear hr hgd hs
    have HN := Lib.hid hN; clear hN h
    obtain ⟨gn, us, a⟩ := s
    dsimp only at *
    have hcase : (us = false ∧ r = 28) ∨ (us = true ∧ (gn != g) = true ∧ r = 28) ∨ (us = true ∧ (gn != g) = false ∧ r = 0) := by
      cases us
      · exact .inl ⟨rfl, by rw [hrr, if_neg (by simp)]⟩
      · by_cases hg : gn = g
        · exact .inr (.inr ⟨rfl, by rw [bne_eq_false_iff_eq]; exact hg, by rw [hrr, if_pos ⟨rfl, hg⟩]⟩)
        · exact .inr (.inl ⟨rfl, by rw [bne_iff_ne]; exact hg, by rw [hrr, if_neg (fun h => hg h.2)]⟩)
    clear hrr
    have n0 : (0 : Int) ≤ (k : Int) := by omega
    rcases hcase with ⟨rfl, rfl⟩ | ⟨rfl, hne, rfl⟩ | ⟨rfl, hne, rfl⟩
    all_goals
      go_enter Tryz.func44, Tryz.ntmps44
      go_upto_region 1 with (fail)
      refine wp_gen (fun Wv => Bx Wv (w.heap.size) (39) (#[.int .i64 k, .int .i64 g]) ∧ Below w.heap.size w Wv) ⟨((Bx.at_ (by simp))), ((Below.refl _ w).alloc (by simp <;> omega) _)⟩ ?_
      rintro w' ⟨g3, b⟩
      replace m0 := cell_later b m0; replace m1 := cell_later b m1; replace m2 := cell_later b m2; replace B := B.trans (b.mono B.size); clear b
      have c_g3 := g3.cell; have f_g3 := g3.free; have a_g3 := fun o => (g3.alloc o).cell; have d_g3 := fun o o2 => ((g3.alloc o).alloc o2).cell; have e_g3 := fun o => (g3.alloc o).free
      go_wp2
      refine wp_region_calm (by kernel_rfl) (by kernel_rfl) ?_
      try clear c_g3 f_g3 a_g3 d_g3 e_g3
      have c_g3 := fun x : Fut _ => (g3.below x.h).cell
      have c_m0 := fun x : Fut _ => cell_later x.h m0
      have c_m1 := fun x : Fut _ => cell_later x.h m1
      have c_m2 := fun x : Fut _ => cell_later x.h m2
      repeat (go_big_quiet_step (fail))
      refine wpQuiet_nil ?_
      intro _ hw'
      obtain ⟨xq, hw''⟩ := hw'
      subst hw''
      clear c_m0; replace m0 := cell_later xq.h m0
      clear c_m1; replace m1 := cell_later xq.h m1
      clear c_m2; replace m2 := cell_later xq.h m2
      clear c_g3; replace g3 := g3.below xq.h; have c_g3 := g3.cell; have f_g3 := g3.free; have a_g3 := fun o => (g3.alloc o).cell; have d_g3 := fun o o2 => ((g3.alloc o).alloc o2).cell; have e_g3 := fun o => (g3.alloc o).free
      replace B := B.trans (xq.h.mono B.size)
      go_wp2
      go_ret
      exact ⟨rfl, B⟩
  · have hr0 : r = 2 := by rw [hr, rightErr, if_neg (by omega)]
    clear hr h hN
    subst hr0
    have hcase : sl < 0 ∨ 0 ≤ sl ∧ (N : Int) ≤ sl := by omega
    clear hin
    rcases hcase with hneg | ⟨hneg, hbig⟩
    all_goals
      go_enter Tryz.func44, Tryz.ntmps44
      go_upto_region 1 with (fail)
      refine wp_gen (fun Wv => Bx Wv (w.heap.size) (39) (#[.int .i64 sl, .int .i64 g]) ∧ Below w.heap.size w Wv) ⟨((Bx.at_ (by simp))), ((Below.refl _ w).alloc (by simp <;> omega) _)⟩ ?_
      rintro w' ⟨g3, b⟩
      replace B := B.trans (b.mono B.size); clear b
      have c_g3 := g3.cell; have f_g3 := g3.free; have a_g3 := fun o => (g3.alloc o).cell; have d_g3 := fun o o2 => ((g3.alloc o).alloc o2).cell; have e_g3 := fun o => (g3.alloc o).free
      go_wp2
      go_ret
      exact ⟨rfl, B⟩
def nextI (L : List Sl) : Int := match next L with | none => -1 | some k => (k : Int)
theorem nextFrom_drop {L : List Sl} {k : Nat} {s : Sl} (h : L[k]? = some s) : nextFrom (L.drop k) k = if s.used = false ∧ s.gen ≠ 2147483647 then some k else nextFrom (L.drop (k + 1)) (k + 1) := by
  obtain ⟨hk, rfl⟩ := List.getElem?_eq_some_iff.1 h
  rw [List.drop_eq_getElem_cons hk, nextFrom]
set_option maxRecDepth 100000 in
set_option maxHeartbeats 1000000 in
theorem NextR_any (v : Value) (L : List Sl) (r : Int) (hr : r = nextI L) (w : World) (h : Slots w v L) (hL : ∀ s ∈ L, s.gen ≤ 2147483647) :
    Calls Tryz.prog 75 #[v] w fun e w' => e = .returned (.int .i64 r) ∧ w = w' := by
  have l1 := Rd.len h Tryz.underlying29
  have l2 := Rd.len_le h
  obtain ⟨N, hN⟩ : ∃ N, N = L.length := ⟨_, rfl⟩
  rw [← hN] at l1 l2
  have HN := Lib.hid hN; have H := Lib.hid h; have HR := Lib.hid hr; have HL := Lib.hid hL; clear hN h hr hL
  go_enter Tryz.func75, Tryz.ntmps75
  go_wp2
  go_loop [3] (fun i => ∃ k : Nat, k ≤ N ∧ i = .int .i64 k ∧ Hid (nextFrom (L.drop k) k = next L)) (fun i => N - (intOf i).toNat)
  case atStart => exact ⟨0, Nat.zero_le _, rfl, Lib.hid rfl⟩
  case round =>
    obtain ⟨k, hk, rfl, hh⟩ := hrel
    by_cases hlt : k < N
    · obtain ⟨b, o, s, ia, c0, c1, c2, hs⟩ := H.out.at_ (P := Tryz.prog) Tryz.underlying29 size_slot (k := k) (by have := HN.out; omega)
      have hnf := nextFrom_drop hs.out
      have hg := HL.out s (List.mem_of_getElem? hs.out)
      rw [hh.out] at hnf
      obtain ⟨gn, us, a⟩ := s
      dsimp only at *
      have hcase : (us = true ∧ next L = nextFrom (L.drop (k + 1)) (k + 1)) ∨ (us = false ∧ ¬ gn < 2147483647 ∧ next L = nextFrom (L.drop (k + 1)) (k + 1)) ∨ (us = false ∧ gn < 2147483647 ∧ next L = some k) := by
        cases us
        · by_cases hg2 : gn = 2147483647
          · exact .inr (.inl ⟨rfl, by omega, by rw [hnf, if_neg (fun h => h.2 hg2)]⟩)
          · exact .inr (.inr ⟨rfl, by omega, by rw [hnf, if_pos ⟨rfl, hg2⟩]⟩)
        · exact .inl ⟨rfl, by rw [hnf, if_neg (fun h => by simp at h)]⟩
      clear hnf hh hs
      rcases hcase with ⟨rfl, hx⟩ | ⟨rfl, hg2, hx⟩ | ⟨rfl, hg2, hx⟩
      · have HX := Lib.hid hx; clear hx
        go_wp2
        go_round
        case rel => exact ⟨k + 1, by omega, by go_num, Lib.hid HX.out.symm⟩
        case measure => simp [intOf]; omega
      · have HX := Lib.hid hx; clear hx
        go_wp2
        go_round
        case rel => exact ⟨k + 1, by omega, by go_num, Lib.hid HX.out.symm⟩
        case measure => simp [intOf]; omega
      · have HX := Lib.hid hx; clear hx
        go_wp2
        go_ret
        exact ⟨ret_int (by rw [HR.out, nextI, HX.out]), rfl⟩
    · obtain rfl : k = N := by omega
      go_wp2
      go_ret
      exact ⟨ret_int (by rw [HR.out, nextI, ← hh.out, List.drop_of_length_le (by have := HN.out; omega)]; rfl), rfl⟩
end Go.Proofs.YtmbokdnndlnjkaaGreat
namespace Go.Proofs.YtmbokdnndlnjkaaGreat
open Go.RowKit L01 L02 L18
theorem info_slot : (Tryz.prog.info? 37).map (fun i => (i.zero, i.size, i.bytes)) = some (some (.agg #[.int .i64 0, .bool false, .int .i64 0]), 3, 24) := by kernel_rfl
theorem lit_slot {w : World} {e : TypeId} {n : Nat} (s : Sl) (hn : w.heap.size = n) : Rd (w.alloc (.cells #[.int .i64 s.gen, .bool s.used, .int .i64 s.at_] e)) 3 (.slice (some ⟨n, 0, none⟩) 1 1) 1 (slC s) := by
  subst hn; exact lit_rdK (n := 1) (sz := 3) rfl (by omega)
theorem slC_one (s : Sl) : ∀ u ∈ slC s, u.oneCell' = true := by
  intro u hu
  simp [slC] at hu
  rcases hu with rfl | rfl | rfl <;> rfl
theorem OwnS.of {w : World} {B E n : Nat} {v : Value} {xs : List Value} {L : List Sl} (h : w.ownsRow B E 3 v n xs) (hx : xs = tabL L) : OwnS w B E v L := by
  subst hx
  have hn : n = L.length := by have := h.1; rw [tabL_len] at this; omega
  subst hn; exact h
theorem tabL_snoc (L : List Sl) (s : Sl) : tabL L ++ slC s = tabL (L ++ [s]) := by simp [tabL, List.flatMap_append]
set_option maxRecDepth 100000 in
set_option maxHeartbeats 1000000 in
theorem ToldR_any (v : Value) (l : List UInt64) (hs : SizeOk l.length) (L : List Sl) (r : Bool) (hL : L = all l) (hr : r = decide (openErr l = 0)) (w : World) (h : Words w v l) :
    Calls Tryz.prog 128 #[v] w fun e w' => ∃ x, e = .returned (.tuple #[x, .bool r]) ∧ OwnS w' w.heap.size 37 x L ∧ Below w.heap.size w w' := by
  have B : Below w.heap.size w w := Below.refl _ _
  have H := Lib.hid h; have HS := Lib.hid hs; have HL := Lib.hid hL; have HR := Lib.hid hr
  have hlen := hs.1
  clear h hs hL hr
  go_enter Tryz.func128, Tryz.ntmps128
  go_wp2
  have HB := Lib.hid B; clear B
  go_loopw [4, 5] (fun xv i wr => ∃ k : Nat, k ≤ 16 ∧ i = .int .i64 k ∧ Hid (OwnS wr w.heap.size 37 xv ((slots l).take k) ∧ ∀ x ∈ (ws l).take k, Right (spl x)) ∧ Below w.heap.size w wr) (fun _ i _ => 16 - (intOf i).toNat)
  case atStart => exact ⟨0, by omega, rfl, Lib.hid ⟨OwnS.nil _ _ _, by simp⟩, HB.out⟩
  case round =>
    obtain ⟨k, hk, rfl, hh, B⟩ := hrel
    by_cases hlt : k < 16
    · obtain ⟨ad, x, ia, ca, hx⟩ := (H.out.below B).atI Tryz.underlying22 one_u64 (k := 112 + (k : Int)) (by omega) (by omega)
      have hx' : (ws l)[k]? = some x := ws_get hlt (by have := hx.out; rwa [show (112 + (k : Int)).toNat = 112 + k by omega] at this)
      have HX := Lib.hid hx'; clear hx hx'
      by_cases hr : Right (spl x)
      · have SP := SplitR_r x (spl x) 0 (by rw [spl0, if_pos hr]) (by rw [splErr, if_pos hr])
        obtain ⟨s, hs⟩ : ∃ s, s = spl x := ⟨_, rfl⟩
        rw [← hs] at SP
        have HSP := Lib.hid SP; have HRR := Lib.hid hr; have HSX := Lib.hid hs; clear SP hr hs
        go_wp2_with fail
        refine (HSP.out _).mono ?_
        rintro e w2 ⟨rfl, b⟩
        have o := hh.out.1.below b
        replace B := B.trans (b.mono B.size)
        have HO := Lib.hid o; have HBB := Lib.hid B; clear b o B
        have hlk : ((slots l).take k).length ≤ 16 := by have := List.length_take_le k (slots l); omega
        go_wp2_with (at_builtin; refine wpList_append (by rfl) rfl rfl rfl Tryz.underlying29 info_slot rfl (by omega) (by exact own_below HO.out (((Below.refl _ _).alloc (Nat.le_refl _) _).alloc (by simp) _)) (by exact lit_slot s (by simp)) (slC_one s) (by omega) (by omega) (by exact (HBB.out.alloc HBB.out.size _).alloc (by have := HBB.out.size; simp; omega) _) (Nat.le_refl _) ?_; intro v1 w3 o3 B3 g3; clear g3)
        have hgS : (slots l)[k]? = some s := by rw [slots, List.getElem?_map, HX.out, HSX.out]; rfl
        have o4 : OwnS w3 w.heap.size 37 v1 ((slots l).take (k + 1)) := OwnS.of o3 (by rw [tabL_snoc, List.take_add_one, hgS]; rfl)
        have HO4 := Lib.hid o4; have HB3 := Lib.hid B3; clear o3 o4 B3 hgS
        go_roundw
        case rel => exact ⟨k + 1, by omega, by go_num, Lib.hid ⟨HO4.out, right_take hh.out.2 HX.out HRR.out⟩, HB3.out⟩
        case measure => simp [intOf]; omega
      · have SP := SplitR_r x .none 50 (by rw [spl0, if_neg hr]) (by rw [splErr, if_neg hr])
        have he := openErr_no HS.out HX.out hr
        have HSP := Lib.hid SP; have HE := Lib.hid he; clear SP hr he
        go_wp2_with fail
        refine (HSP.out _).mono ?_
        rintro e w2 ⟨rfl, b⟩
        replace B := B.trans (b.mono B.size); clear b
        go_wp2
        go_ret2
        have hr1 : r = false := by rw [HR.out, decide_eq_false (by rw [HE.out]; omega)]
        subst hr1
        refine ⟨_, rfl, ?_, B.alloc B.size _⟩
        rw [HL.out, all_nil (by rw [HE.out]; omega)]; exact OwnS.nil _ _ _
    · obtain rfl : k = 16 := by omega
      have he := openErr_of HS.out hh.out.2
      have HE := Lib.hid he; clear he
      go_wp2
      go_ret2
      have hr1 : r = true := by rw [HR.out, decide_eq_true HE.out]
      subst hr1
      refine ⟨_, rfl, ?_, B⟩
      have := hh.out.1
      rw [List.take_of_length_le (by rw [slots16 HE.out]; omega)] at this
      rw [HL.out, all_ok HE.out]; exact this
set_option maxRecDepth 100000 in
set_option maxHeartbeats 1000000 in
theorem AllR_any (v : Value) (l : List UInt64) (L : List Sl) (r : Int) (hL : L = all l) (hr : r = openErr l) (w : World) (h : Words w v l) :
    Calls Tryz.prog 130 #[v] w fun e w' => ∃ x E, e = .returned (.tuple #[x, .int .i64 r]) ∧ OwnS w' w.heap.size E x L ∧ Below w.heap.size w w' := by
  have B : Below w.heap.size w w := Below.refl _ _
  have CT := fun w h => CheckR_any v l w h
  by_cases hs : SizeOk l.length
  · rw [chk_ok hs] at CT
    by_cases h0 : openErr l = 0
    · have TT := fun w h => ToldR_any v l hs L true hL (by rw [decide_eq_true h0]) w h
      have HC := Lib.hid CT; have HT := Lib.hid TT; have H := Lib.hid h
      rw [h0] at hr
      subst hr
      clear CT TT h h0 hL hs
      go_enter Tryz.func130, Tryz.ntmps130
      go_wp2_with fail
      refine (HC.out _ H.out).mono ?_
      rintro e w1 ⟨rfl, rfl⟩
      go_wp2_with fail
      refine (HT.out _ H.out).mono ?_
      rintro e w1 ⟨x, rfl, o, b⟩
      go_wp2
      go_ret2
      exact ⟨x, _, rfl, o, b⟩
    · have h50 : openErr l = 50 := by
        unfold openErr at h0 ⊢
        rw [if_pos hs] at h0 ⊢
        split <;> simp_all
      have TT := fun w h => ToldR_any v l hs L false hL (by rw [decide_eq_false h0]) w h
      have HC := Lib.hid CT; have HT := Lib.hid TT; have H := Lib.hid h
      rw [h50] at hr
      have hL0 := hL.trans (all_nil h0)
      subst hr hL0
      clear CT TT h h0 hL hs h50
      go_enter Tryz.func130, Tryz.ntmps130
      go_wp2_with fail
      refine (HC.out _ H.out).mono ?_
      rintro e w1 ⟨rfl, rfl⟩
      go_wp2_with fail
      refine (HT.out _ H.out).mono ?_
      rintro e w1 ⟨x, rfl, o, b⟩
      go_wp2
      go_ret2
      exact ⟨_, 0, rfl, OwnS.nil _ _ _, b⟩
  · have h8 : openErr l = 8 := by rw [openErr, if_neg hs]
    rw [chk_no hs] at CT
    have HC := Lib.hid CT; have H := Lib.hid h
    have hL0 := hL.trans (all_nil (by rw [h8]; omega))
    rw [h8] at hr
    subst hr hL0
    clear CT h hL hs h8
    go_enter Tryz.func130, Tryz.ntmps130
    go_wp2_with fail
    refine (HC.out _ H.out).mono ?_
    rintro e w1 ⟨rfl, rfl⟩
    go_wp2
    go_ret2
    exact ⟨_, 0, rfl, OwnS.nil _ _ _, B⟩
set_option maxRecDepth 100000 in
set_option maxHeartbeats 1000000 in
theorem ResolveR_any (v : Value) (l : List UInt64) (sl g : Int) (x r : Int) (hx : x = res l sl g) (hr : r = resErr l sl g) (w : World) (h : Words w v l) :
    Calls Tryz.prog 114 #[v, .agg #[.int .i64 sl, .int .i64 g]] w fun e w' => e = .returned (.tuple #[.int .i64 x, .int .i64 r]) ∧ Below w.heap.size w w' := by
  have B : Below w.heap.size w w := Below.refl _ _
  obtain ⟨L, hL⟩ : ∃ L, L = all l := ⟨_, rfl⟩
  obtain ⟨oe, hoe⟩ : ∃ oe, oe = openErr l := ⟨_, rfl⟩
  have AT := fun w h => AllR_any v l L oe hL hoe w h
  have HAT := Lib.hid AT; have H := Lib.hid h; clear AT h
  by_cases h0 : openErr l = 0
  · have hr0 : r = rightErr L sl g := by rw [hr, resErr, if_pos h0, hL, all_ok h0]
    have RT := fun v w h => RightR_any v L sl g r hr0 w h
    have HRT := Lib.hid RT; clear RT
    rw [h0] at hoe
    subst hoe
    by_cases hrr : r = 0
    · obtain ⟨p1, p2, s, p3, p4, p5⟩ := rightErr_ok (hr0.symm.trans hrr)
      obtain ⟨k, rfl⟩ := Int.eq_ofNat_of_zero_le p1
      have hx0 : x = s.at_ := by
        rw [hx, res, if_pos (by rw [← hr]; exact hrr), ← all_ok h0, ← hL]
        simp at p3
        simp [List.getD_eq_getElem?_getD, p3]
      have hk : k < L.length := by omega
      simp only [Int.toNat_natCast] at p3
      have HP := Lib.hid p3
      clear hx hr h0 hr0 p4 p5 hL p2 p3
      subst hrr hx0
      go_enter Tryz.func114, Tryz.ntmps114
      go_upto_region 1 with (fail)
      refine wp_gen (fun Wv => Bx Wv (w.heap.size) (39) (#[.int .i64 k, .int .i64 g]) ∧ Below w.heap.size w Wv) ⟨((Bx.at_ (by simp))), ((Below.refl _ w).alloc (by simp <;> omega) _)⟩ ?_
      rintro w' ⟨g1, b⟩
      replace B := B.trans (b.mono B.size); clear b
      have c_g1 := g1.cell; have f_g1 := g1.free; have a_g1 := fun o => (g1.alloc o).cell; have d_g1 := fun o o2 => ((g1.alloc o).alloc o2).cell; have e_g1 := fun o => (g1.alloc o).free
      go_wp2_with fail
      refine (HAT.out _ (H.out.below B)).mono ?_
      rintro e w' ⟨xv, E, rfl, r1, b⟩
      try clear c_g1 f_g1 a_g1 d_g1 e_g1
      replace g1 := g1.below b; have c_g1 := g1.cell; have f_g1 := g1.free; have a_g1 := fun o => (g1.alloc o).cell; have d_g1 := fun o o2 => ((g1.alloc o).alloc o2).cell; have e_g1 := fun o => (g1.alloc o).free; replace B := B.trans (b.mono B.size); clear b
      go_wp2_with fail
      refine (HRT.out _ _ r1.rd).mono ?_
      rintro e w' ⟨rfl, b⟩
      try clear c_g1 f_g1 a_g1 d_g1 e_g1
      replace g1 := g1.below b; have c_g1 := g1.cell; have f_g1 := g1.free; have a_g1 := fun o => (g1.alloc o).cell; have d_g1 := fun o o2 => ((g1.alloc o).alloc o2).cell; have e_g1 := fun o => (g1.alloc o).free; replace r1 := r1.below b; replace B := B.trans (b.mono B.size); clear b
      obtain ⟨b, o, t, ia, c0, c1, c2, ht⟩ := r1.rd.at_ (P := Tryz.prog) Tryz.underlying29 size_slot (k := k) hk
      have hts : t = s := by have h1 := ht.out; rw [HP.out] at h1; injection h1 with h1; exact h1.symm
      subst hts
      have n0 : (0 : Int) ≤ (k : Int) := by omega
      go_wp2
      go_ret2
      exact ⟨rfl, B⟩
    · have hne : (r != 0) = true := by rw [bne_iff_ne]; exact hrr
      have hx0 : x = 0 := by rw [hx, res, if_neg (by rw [← hr]; exact hrr)]
      clear hx hr h0 hr0 hrr hL
      subst hx0
      go_enter Tryz.func114, Tryz.ntmps114
      go_upto_region 1 with (fail)
      refine wp_gen (fun Wv => Bx Wv (w.heap.size) (39) (#[.int .i64 sl, .int .i64 g]) ∧ Below w.heap.size w Wv) ⟨((Bx.at_ (by simp))), ((Below.refl _ w).alloc (by simp <;> omega) _)⟩ ?_
      rintro w' ⟨g1, b⟩
      replace B := B.trans (b.mono B.size); clear b
      have c_g1 := g1.cell; have f_g1 := g1.free; have a_g1 := fun o => (g1.alloc o).cell; have d_g1 := fun o o2 => ((g1.alloc o).alloc o2).cell; have e_g1 := fun o => (g1.alloc o).free
      go_wp2_with fail
      refine (HAT.out _ (H.out.below B)).mono ?_
      rintro e w' ⟨xv, E, rfl, r1, b⟩
      try clear c_g1 f_g1 a_g1 d_g1 e_g1
      replace g1 := g1.below b; have c_g1 := g1.cell; have f_g1 := g1.free; have a_g1 := fun o => (g1.alloc o).cell; have d_g1 := fun o o2 => ((g1.alloc o).alloc o2).cell; have e_g1 := fun o => (g1.alloc o).free; replace B := B.trans (b.mono B.size); clear b
      go_wp2_with fail
      refine (HRT.out _ _ r1.rd).mono ?_
      rintro e w' ⟨rfl, b⟩
      try clear c_g1 f_g1 a_g1 d_g1 e_g1
      replace g1 := g1.below b; have c_g1 := g1.cell; have f_g1 := g1.free; have a_g1 := fun o => (g1.alloc o).cell; have d_g1 := fun o o2 => ((g1.alloc o).alloc o2).cell; have e_g1 := fun o => (g1.alloc o).free; replace r1 := r1.below b; replace B := B.trans (b.mono B.size); clear b
      go_wp2
      go_ret2
      exact ⟨rfl, B⟩
  · have hne : (oe != 0) = true := by rw [bne_iff_ne, hoe]; exact h0
    have hr0 : r = oe := by rw [hr, resErr, if_neg h0, hoe]
    have hx0 : x = 0 := by rw [hx, res, resErr, if_neg h0, if_neg h0]
    clear hr h0 hx hoe hL
    subst hr0 hx0
    go_enter Tryz.func114, Tryz.ntmps114
    go_upto_region 1 with (fail)
    refine wp_gen (fun Wv => Bx Wv (w.heap.size) (39) (#[.int .i64 sl, .int .i64 g]) ∧ Below w.heap.size w Wv) ⟨((Bx.at_ (by simp))), ((Below.refl _ w).alloc (by simp <;> omega) _)⟩ ?_
    rintro w' ⟨g1, b⟩
    replace B := B.trans (b.mono B.size); clear b
    have c_g1 := g1.cell; have f_g1 := g1.free; have a_g1 := fun o => (g1.alloc o).cell; have d_g1 := fun o o2 => ((g1.alloc o).alloc o2).cell; have e_g1 := fun o => (g1.alloc o).free
    go_wp2_with fail
    refine (HAT.out _ (H.out.below B)).mono ?_
    rintro e w' ⟨xv, E, rfl, r1, b⟩
    try clear c_g1 f_g1 a_g1 d_g1 e_g1
    replace g1 := g1.below b; have c_g1 := g1.cell; have f_g1 := g1.free; have a_g1 := fun o => (g1.alloc o).cell; have d_g1 := fun o o2 => ((g1.alloc o).alloc o2).cell; have e_g1 := fun o => (g1.alloc o).free; replace B := B.trans (b.mono B.size); clear b
    go_wp2
    go_ret2
    exact ⟨rfl, B⟩
end Go.Proofs.YtmbokdnndlnjkaaGreat
namespace Go.Proofs.YtmbokdnndlnjkaaGreat.L06
open L02 L05
def SupOk (W T : Int) : Prop := SizeOk W ∧ 0 ≤ T ∧ T ≤ 8
instance (W T : Int) : Decidable (SupOk W T) := inferInstanceAs (Decidable (SizeOk W ∧ 0 ≤ T ∧ T ≤ 8))
def supErr (W T : Int) : Int := if SupOk W T then 0 else 8
def magic : UInt64 := 32777959566500194
def u (n : Int) : UInt64 := UInt64.ofNat n.toNat
def body (W T : Int) : List UInt64 := [magic, 1, u W, u T, 0, 0, 0]
def wordsOf (W T : Int) : List UInt64 := body W T ++ [sum (body W T)]
def write (W T : Int) : List UInt64 := if SupOk W T then wordsOf W T else []
def at2 (l : List UInt64) : Int := (l.getD 2 0).toNat
def at3 (l : List UInt64) : Int := (l.getD 3 0).toNat
def ReadOk (l : List UInt64) : Prop := SupOk (at2 l) (at3 l) ∧ l = wordsOf (at2 l) (at3 l)
instance (l : List UInt64) : Decidable (ReadOk l) := inferInstanceAs (Decidable (SupOk (at2 l) (at3 l) ∧ l = wordsOf (at2 l) (at3 l)))
def rdW (l : List UInt64) : Int := if ReadOk l then at2 l else 0
def rdT (l : List UInt64) : Int := if ReadOk l then at3 l else 0
def rdErr (l : List UInt64) : Int := if l.length = 8 then (if ReadOk l then 0 else 50) else 2
theorem u_nat {n : Int} (h0 : 0 ≤ n) (h1 : n < 18446744073709551616) : ((u n).toNat : Int) = n := by
  unfold u; rw [UInt64.toNat_ofNat', Nat.mod_eq_of_lt (by omega)]; omega
theorem readOk_len {l : List UInt64} (h : ReadOk l) : l.length = 8 := by rw [h.2]; rfl
theorem rd_no {l : List UInt64} (h : ¬ ReadOk l) : rdW l = 0 ∧ rdT l = 0 := ⟨if_neg h, if_neg h⟩
/-! ### the sum tells one byte -/
def inv : UInt64 := 14886173955864302971
end Go.Proofs.YtmbokdnndlnjkaaGreat.L06
