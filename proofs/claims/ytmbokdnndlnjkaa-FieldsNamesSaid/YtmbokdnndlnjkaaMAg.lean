/- Contracts of the functions that the laws 'A' reach, part 7. No condition. -/
import Derived.Test.YtmbokdnndlnjkaaMAd
import Derived.Test.YtmbokdnndlnjkaaMAf
set_option linter.unusedVariables false
set_option linter.unusedSimpArgs false
namespace Go.Proofs.Ytmbokdnndlnjkaa
open Go.RowKit L01 L02 L18
def entV (a : Int) (x : UInt64) : Value := .agg #[.int .i64 a, .int .u64 x.toNat]
theorem index_tab {L : List Sl} {k : Nat} {s : Sl} (hL : L.length = 16) (V : Array Value) (hV : V = tab L) (h : L[k]? = some s) (W : World) : (Instr.index 110 (.agg V) (.int .i64 (k : Int))).run Try.prog W = .ok (.agg #[.int .i64 s.gen, .bool s.used, .int .i64 s.at_]) W := by
  subst hV
  have hk : k < 16 := by have := (List.getElem?_eq_some_iff.1 h).1; omega
  obtain ⟨t0, t1, t2⟩ := tab_get3 h
  obtain ⟨i, hi, hsz⟩ := Option.map_eq_some_iff.1 size_slot
  have he : (tab L).extract (k * 3) (k * 3 + 3) = #[.int .i64 s.gen, .bool s.used, .int .i64 s.at_] := by
    apply Array.ext_getElem?
    intro j
    rw [Array.getElem?_extract]
    have hz : (tab L).size = 48 := by rw [tab_size, hL]
    match j with
    | 0 => rw [if_pos (by rw [hz]; omega)]; exact t0
    | 1 => rw [if_pos (by rw [hz]; omega)]; exact t1
    | 2 => rw [if_pos (by rw [hz]; omega)]; exact t2
    | j + 3 => rw [if_neg (by rw [hz]; omega)]; simp
  simp [Instr.index, run_underlying Try.underlying110, asIntOf, hk, sizeOf, typeInfo, go_sem, hi, hsz]
  exact he
set_option maxRecDepth 100000 in
set_option maxHeartbeats 1000000 in
theorem New18_ok (v : Value) (l : List UInt64) (a : Int) (w : World) (h : Words w v l) (h0 : openErr l = 0) (ha : 128 ≤ a ∧ a < 2048) :
    Calls Try.prog 35 #[v, .int .i64 a] w fun e w' => e = .returned (.tuple #[.agg #[.int .i64 (newSlot l a), .int .i64 (newGen l a)], entV (newAt l a) (newVal l a), .int .i64 (L18.newErr l a)]) ∧ Below w.heap.size w w' := by
  have B : Below w.heap.size w w := Below.refl _ _
  obtain ⟨V, hV⟩ : ∃ V, V = tab (tabOf l) := ⟨_, rfl⟩
  have OT := fun w h => open_any v l V hV 0 h0.symm w h
  have HOT := Lib.hid OT; have H := Lib.hid h; clear OT h
  have hVs : V.size = 48 := by rw [hV]; exact tabOf_size l
  have hV1 : V.all (·.oneCell') = true := by rw [hV]; exact tab_one _
  have HVs := Lib.hid hVs; have HV1 := Lib.hid hV1
  clear hVs hV1
  rw [tabOf_ok h0] at hV
  have HV := Lib.hid hV; have H0 := Lib.hid h0; have HA := Lib.hid ha
  obtain ⟨a1, a2⟩ := ha
  clear hV h0
  go_enter Try.func35, Try.ntmps35
  go_upto_region 1 with (fail)
  refine wp_gen (fun Wv => Bx Wv (w.heap.size) (35) (#[.int .i64 0, .int .i64 0]) ∧ Bx Wv (w.heap.size + 1) (50) (#[.int .i64 0, .int .u64 0]) ∧ Below w.heap.size w Wv) ⟨(((Bx.at_ (by simp)).alloc _)), ((Bx.at_ (by simp))), (((Below.refl _ w).alloc (by simp <;> omega) _).alloc (by simp <;> omega) _)⟩ ?_
  rintro w' ⟨g4, g5, b⟩
  replace B := B.trans (b.mono B.size); clear b
  have c_g4 := g4.cell; have f_g4 := g4.free; have a_g4 := fun o => (g4.alloc o).cell; have d_g4 := fun o o2 => ((g4.alloc o).alloc o2).cell; have e_g4 := fun o => (g4.alloc o).free
  have c_g5 := g5.cell; have f_g5 := g5.free; have a_g5 := fun o => (g5.alloc o).cell; have d_g5 := fun o o2 => ((g5.alloc o).alloc o2).cell; have e_g5 := fun o => (g5.alloc o).free
  go_wp2_with fail
  refine (HOT.out _ (H.out.below B)).mono ?_
  rintro e w' ⟨rfl, b⟩
  try clear c_g4 f_g4 a_g4 d_g4 e_g4
  replace g4 := g4.below b; have c_g4 := g4.cell; have f_g4 := g4.free; have a_g4 := fun o => (g4.alloc o).cell; have d_g4 := fun o o2 => ((g4.alloc o).alloc o2).cell; have e_g4 := fun o => (g4.alloc o).free; try clear c_g5 f_g5 a_g5 d_g5 e_g5
  replace g5 := g5.below b; have c_g5 := g5.cell; have f_g5 := g5.free; have a_g5 := fun o => (g5.alloc o).cell; have d_g5 := fun o o2 => ((g5.alloc o).alloc o2).cell; have e_g5 := fun o => (g5.alloc o).free; replace B := B.trans (b.mono B.size); clear b
  go_wp2_with (first
    | ((with_reducible refine at_store 110 7 15 ?_); refine wpList_storeNew rfl _ _ _ rfl rfl V rfl rfl (by rw [HVs.out]; exact size_table) (by rw [HVs.out]; rfl) HV1.out ?_; intro W q1 b1)
    | ((with_reducible refine at_load 30 110 7 ?_); refine wpList_loadRow rfl _ _ rfl _ rfl q1 _ Try.underlying110 rfl (by rw [HVs.out]; exact size_table) ?_))
  replace g4 := g4.below b1; replace g5 := g5.below b1; replace B := B.trans (b1.mono B.size)
  have HG := Lib.hid (And.intro g4 g5); have HB := Lib.hid B; clear q1 b1 B
  clear c_g4 f_g4 a_g4 d_g4 e_g4 c_g5 f_g5 a_g5 d_g5 e_g5
  clear g4 g5
  go_loopw [31] (fun i wr => ∃ k : Nat, k ≤ 16 ∧ i = .int .i64 k ∧ Hid ((Bx wr w.heap.size 35 #[.int .i64 0, .int .i64 0] ∧ Bx wr (w.heap.size + 1) 50 #[.int .i64 0, .int .u64 0]) ∧ nextFrom ((slots l).drop k) k = next (slots l)) ∧ Below w.heap.size w wr) (fun i _ => 16 - (intOf i).toNat)
  case atStart => exact ⟨0, by omega, rfl, Lib.hid ⟨HG.out, rfl⟩, HB.out⟩
  case round =>
    clear HG HB
    obtain ⟨k, hk, rfl, hh, B⟩ := hrel
    by_cases hlt : k < 16
    · obtain ⟨s, hs⟩ : ∃ s, (slots l)[k]? = some s := ⟨_, List.getElem?_eq_getElem (by rw [slots16 H0.out]; exact hlt)⟩
      have hix := index_tab (slots16 H0.out) V HV.out hs
      obtain ⟨⟨g4, g5⟩, hn⟩ := hh.out
      rw [List.drop_eq_getElem_cons (by rw [slots16 H0.out]; exact hlt)] at hn
      have HS := Lib.hid hs; have HN := Lib.hid hn; clear hs hn hh
      obtain ⟨gn, us, at_⟩ := s
      dsimp only at hix
      have hcase : (us = true ∨ us = false ∧ gn = 2147483647) ∨ (us = false ∧ (gn == 2147483647) = false) := by
        cases us
        · by_cases hg : gn = 2147483647
          · exact .inl (.inr ⟨rfl, hg⟩)
          · exact .inr ⟨rfl, by rw [beq_eq_false_iff_ne]; exact hg⟩
        · exact .inl (.inl rfl)
      have HIX := Lib.hid hix; clear hix
      rcases hcase with hcase | ⟨rfl, hne⟩
      · have hnx : nextFrom ((slots l).drop (k + 1)) (k + 1) = next (slots l) := by
          rw [← HN.out, nextFrom, if_neg]
          have e := HS.out
          rw [List.getElem?_eq_getElem (by rw [slots16 H0.out]; exact hlt)] at e
          injection e with e
          rw [e]
          rcases hcase with h | ⟨_, h⟩
          · exact fun h2 => by rw [h] at h2; exact absurd h2.1 (by simp)
          · exact fun h2 => h2.2 h
        have HNX := Lib.hid hnx; clear hnx
        have HG := Lib.hid (And.intro g4 g5); have HB := Lib.hid B; clear g4 g5 B
        have hix := HIX.out
        rcases hcase with rfl | ⟨rfl, rfl⟩
        all_goals
          go_wp2
          go_roundw
          case rel => exact ⟨k + 1, by omega, by go_num, Lib.hid ⟨⟨HG.out.1.alloc _, HG.out.2.alloc _⟩, HNX.out⟩, HB.out.alloc HB.out.size _⟩
          case measure => simp [intOf]; omega
      · have hnx : next (slots l) = some k := by
          rw [← HN.out, nextFrom, if_pos]
          have e := HS.out
          rw [List.getElem?_eq_getElem (by rw [slots16 H0.out]; exact hlt)] at e
          injection e with e
          rw [e]
          exact ⟨rfl, by simpa using hne⟩
        have hR : Right ⟨gn, false, at_⟩ := by
          have hall := H0.out
          unfold openErr at hall
          split at hall
          · split at hall
            · rename_i h2 h3
              have e := HS.out
              rw [slots, List.getElem?_map] at e
              obtain ⟨x, hx, hxe⟩ := Option.map_eq_some_iff.1 e
              rw [← hxe]; exact h3 x (List.mem_of_getElem? hx)
            · omega
          · omega
        have hR2 : Right ⟨gn + 1, true, a⟩ := ⟨by have := hR.1; simp at this ⊢; omega, by have := hR.2.1; simp at this hne ⊢; omega, by simp, fun _ => ⟨by have := hR.1; simp at this ⊢; omega, a1, a2⟩⟩
        have hg1 : 0 ≤ gn := hR.1
        have hg2 : gn < 2147483647 := by have := hR.2.1; simp at this hne; omega
        have herr : L18.newErr l a = 0 := by rw [L18.newErr, if_pos H0.out, if_pos HA.out, hnx]; rfl
        have e1 : newSlot l a = k := by rw [newSlot, if_pos herr, hnx]; rfl
        have e2 : newGen l a = gn + 1 := by rw [newGen, if_pos herr, hnx]; simp [List.getD_eq_getElem?_getD, HS.out]
        have e3 : newAt l a = 112 + k := by rw [newAt, if_pos herr, hnx]; rfl
        have e4 : newVal l a = pk ⟨gn + 1, true, a⟩ := by rw [newVal, if_pos herr, e2]
        obtain ⟨x, hx⟩ : ∃ x, x = pk ⟨gn + 1, true, a⟩ := ⟨_, rfl⟩
        have PT := fun w => pack_any ⟨gn + 1, true, a⟩ x hx hR2 w
        dsimp only at PT
        rw [← hx] at e4
        have HE := Lib.hid (And.intro herr (And.intro e1 (And.intro e2 (And.intro e3 e4)))); have HPT := Lib.hid PT
        clear hnx hR hR2 herr e1 e2 e3 e4 PT hx
        have hix := HIX.out
        have hsz := B.size
        have n4 : wr.heap.size + 1 ≠ w.heap.size := by omega
        have n5 : wr.heap.size + 1 ≠ w.heap.size + 1 := by have := g5.lt; omega
        go_wp2
        refine wp_gen (fun Wv => Bx Wv (wr.heap.size + 1) (46) (#[.int .i64 (gn + 1), .bool true, .int .i64 a]) ∧ Below wr.heap.size wr Wv) ⟨((Bx.at_ (by simp))), (((Below.refl _ wr).alloc (by simp <;> omega) _).alloc (by simp <;> omega) _)⟩ ?_
        rintro w' ⟨g11, b⟩
        try clear c_g4 f_g4 a_g4 d_g4 e_g4
        replace g4 := g4.below b; have c_g4 := g4.cell; have f_g4 := g4.free; have a_g4 := fun o => (g4.alloc o).cell; have d_g4 := fun o o2 => ((g4.alloc o).alloc o2).cell; have e_g4 := fun o => (g4.alloc o).free; try clear c_g5 f_g5 a_g5 d_g5 e_g5
        replace g5 := g5.below b; have c_g5 := g5.cell; have f_g5 := g5.free; have a_g5 := fun o => (g5.alloc o).cell; have d_g5 := fun o o2 => ((g5.alloc o).alloc o2).cell; have e_g5 := fun o => (g5.alloc o).free; replace B := B.trans (b.mono B.size); clear b
        have c_g11 := g11.cell; have f_g11 := g11.free; have a_g11 := fun o => (g11.alloc o).cell; have d_g11 := fun o o2 => ((g11.alloc o).alloc o2).cell; have e_g11 := fun o => (g11.alloc o).free
        clear hix
        have i0 := c_g11 0; have i1 := c_g11 1; have i2 := c_g11 2
        simp only [List.getElem?_toArray, List.getElem?_cons_zero, List.getElem?_cons_succ] at i0 i1 i2
        clear c_g11 f_g11 a_g11 d_g11 e_g11 c_g4 f_g4 a_g4 d_g4 e_g4 c_g5 f_g5 a_g5 d_g5 e_g5
        obtain ⟨W0, hW0⟩ : ∃ W0, W0 = w' := ⟨_, rfl⟩
        subst hW0
        have hwk : IntKind.i64.wrap (112 + (k : Int)) = 112 + (k : Int) := IntWalk.i64_in _ (by omega)
        go_region_held3 (fun Z => Z.cell? ⟨wr.heap.size + 1, 0, none⟩ = some (.int .i64 (gn + 1)) ∧ Z.cell? ⟨wr.heap.size + 1, 1, none⟩ = some (.bool true) ∧ Z.cell? ⟨wr.heap.size + 1, 2, none⟩ = some (.int .i64 a))
          (first
            | with_reducible exact ⟨j0, j1, j2⟩
            | with_reducible exact ⟨cell_far (cell_far j0 n4) n4, cell_far (cell_far j1 n4) n4, cell_far (cell_far j2 n4) n4⟩
            | with_reducible exact ⟨cell_far (cell_far (cell_far (cell_far j0 n4) n4) n5) n5, cell_far (cell_far (cell_far (cell_far j1 n4) n4) n5) n5, cell_far (cell_far (cell_far (cell_far j2 n4) n4) n5) n5⟩
            | exact ⟨i0, i1, i2⟩)
          ((go_at_call 67; (with_reducible refine (HPT.out _).mono ?_); rintro e W1 ⟨rfl, b⟩; have bb : Below W0.heap.size W0 W1 := ((Below.refl W0.heap.size W0).drew).trans b; have m11 := g11.below bb; have j0 : W1.cell? ⟨wr.heap.size + 1, 0, none⟩ = some (.int .i64 (gn + 1)) := m11.cell 0; have j1 : W1.cell? ⟨wr.heap.size + 1, 1, none⟩ = some (.bool true) := m11.cell 1; have j2 : W1.cell? ⟨wr.heap.size + 1, 2, none⟩ = some (.int .i64 a) := m11.cell 2; have m4 := g4.below bb; have m5 := g5.below bb; have k4 := m4.cell; have l4 := m4.free; have k5 := m5.cell; have l5 := m5.free))
        go_wp2
        refine bodyPost_ret (v := .tuple #[.agg #[.int .i64 k, .int .i64 (gn + 1)], .agg #[.int .i64 (112 + k), .int .u64 x.toNat], .int .i64 0]) (by simp [results, Try.results35, go_sem, k4, l4, k5, l5]) rfl ?_
        obtain ⟨e0, e1, e2, e3, e4⟩ := HE.out
        refine ⟨by rw [e0, e1, e2, e3, e4]; rfl, ?_⟩
        replace B := B.trans (bb.mono B.size)
        (repeat (first | refine Below.setCell ?_ (by first | exact Nat.le_refl _ | (simp <;> omega)) _ | refine Below.alloc ?_ (by first | exact B.size | (have := B.size; simp <;> omega)) _)); exact B
    · obtain rfl : k = 16 := by omega
      obtain ⟨⟨g4, g5⟩, hn⟩ := hh.out
      rw [List.drop_of_length_le (by rw [slots16 H0.out]; omega)] at hn
      have hnx : next (slots l) = none := hn.symm
      have herr : L18.newErr l a = 23 := by rw [L18.newErr, if_pos H0.out, if_pos HA.out, if_pos hnx]
      have e1 : newSlot l a = 0 := if_neg (by rw [herr]; omega)
      have e2 : newGen l a = 0 := if_neg (by rw [herr]; omega)
      have e3 : newAt l a = 0 := if_neg (by rw [herr]; omega)
      have e4 : newVal l a = 0 := if_neg (by rw [herr]; omega)
      have HE := Lib.hid (And.intro herr (And.intro e1 (And.intro e2 (And.intro e3 e4))))
      have k4 := g4.cell; have l4 := g4.free; have k5 := g5.cell; have l5 := g5.free
      clear hn hnx herr e1 e2 e3 e4 hh
      go_wp2
      refine bodyPost_ret (v := .tuple #[.agg #[.int .i64 0, .int .i64 0], .agg #[.int .i64 0, .int .u64 0], .int .i64 23]) (by simp [results, Try.results35, go_sem, k4, l4, k5, l5]) rfl ?_
      obtain ⟨e0, e1, e2, e3, e4⟩ := HE.out
      refine ⟨by rw [e0, e1, e2, e3, e4]; rfl, ?_⟩
      (repeat (first | refine Below.setCell ?_ (by first | exact Nat.le_refl _ | (simp <;> omega)) _ | refine Below.alloc ?_ (by first | exact B.size | (have := B.size; simp <;> omega)) _)); exact B
set_option maxRecDepth 100000 in
set_option maxHeartbeats 1000000 in
theorem New18_any (v : Value) (l : List UInt64) (a sl g ea : Int) (ev : UInt64) (r : Int) (h1 : sl = newSlot l a) (h2 : g = newGen l a) (h3 : ea = newAt l a) (h4 : ev = newVal l a) (h5 : r = L18.newErr l a) (w : World) (h : Words w v l) :
    Calls Try.prog 35 #[v, .int .i64 a] w fun e w' => e = .returned (.tuple #[.agg #[.int .i64 sl, .int .i64 g], .agg #[.int .i64 ea, .int .u64 ev.toNat], .int .i64 r]) ∧ Below w.heap.size w w' := by
  by_cases h0 : openErr l = 0
  · by_cases ha : 128 ≤ a ∧ a < 2048
    · subst h1 h2 h3 h4 h5
      exact New18_ok v l a w h h0 ha
    · have herr : L18.newErr l a = 2 := by rw [L18.newErr, if_pos h0, if_neg ha]
      have e1 : sl = 0 := h1.trans (if_neg (by rw [herr]; omega))
      have e2 : g = 0 := h2.trans (if_neg (by rw [herr]; omega))
      have e3 : ea = 0 := h3.trans (if_neg (by rw [herr]; omega))
      have e4 : ev = 0 := h4.trans (if_neg (by rw [herr]; omega))
      rw [herr] at h5
      clear h1 h2 h3 h4 herr
      subst e1 e2 e3 e4 h5
      have B : Below w.heap.size w w := Below.refl _ _
      obtain ⟨V, hV⟩ : ∃ V, V = tab (tabOf l) := ⟨_, rfl⟩
      have OT := fun w h => open_any v l V hV 0 h0.symm w h
      have HOT := Lib.hid OT; have H := Lib.hid h; clear OT h
      have hVs : V.size = 48 := by rw [hV]; exact tabOf_size l
      have hV1 : V.all (·.oneCell') = true := by rw [hV]; exact tab_one _
      have HVs := Lib.hid hVs; have HV1 := Lib.hid hV1
      clear hVs hV1 hV h0
      have hcase : a < 128 ∨ 128 ≤ a ∧ 2048 ≤ a := by omega
      clear ha
      rcases hcase with a1 | ⟨a1, a2⟩
      all_goals
        go_enter Try.func35, Try.ntmps35
        go_upto_region 1 with (fail)
        refine wp_gen (fun Wv => Bx Wv (w.heap.size) (35) (#[.int .i64 0, .int .i64 0]) ∧ Bx Wv (w.heap.size + 1) (50) (#[.int .i64 0, .int .u64 0]) ∧ Below w.heap.size w Wv) ⟨(((Bx.at_ (by simp)).alloc _)), ((Bx.at_ (by simp))), (((Below.refl _ w).alloc (by simp <;> omega) _).alloc (by simp <;> omega) _)⟩ ?_
        rintro w' ⟨g4, g5, b⟩
        replace B := B.trans (b.mono B.size); clear b
        have c_g4 := g4.cell; have f_g4 := g4.free; have a_g4 := fun o => (g4.alloc o).cell; have d_g4 := fun o o2 => ((g4.alloc o).alloc o2).cell; have e_g4 := fun o => (g4.alloc o).free
        have c_g5 := g5.cell; have f_g5 := g5.free; have a_g5 := fun o => (g5.alloc o).cell; have d_g5 := fun o o2 => ((g5.alloc o).alloc o2).cell; have e_g5 := fun o => (g5.alloc o).free
        go_wp2_with fail
        refine (HOT.out _ (H.out.below B)).mono ?_
        rintro e w' ⟨rfl, b⟩
        try clear c_g4 f_g4 a_g4 d_g4 e_g4
        replace g4 := g4.below b; have c_g4 := g4.cell; have f_g4 := g4.free; have a_g4 := fun o => (g4.alloc o).cell; have d_g4 := fun o o2 => ((g4.alloc o).alloc o2).cell; have e_g4 := fun o => (g4.alloc o).free; try clear c_g5 f_g5 a_g5 d_g5 e_g5
        replace g5 := g5.below b; have c_g5 := g5.cell; have f_g5 := g5.free; have a_g5 := fun o => (g5.alloc o).cell; have d_g5 := fun o o2 => ((g5.alloc o).alloc o2).cell; have e_g5 := fun o => (g5.alloc o).free; replace B := B.trans (b.mono B.size); clear b
        go_wp2_with ((with_reducible refine at_store 110 7 15 ?_); refine wpList_storeNew rfl _ _ _ rfl rfl V rfl rfl (by rw [HVs.out]; exact size_table) (by rw [HVs.out]; rfl) HV1.out ?_; intro W q1 b1; have k4 := (g4.below b1).cell; have l4 := (g4.below b1).free; have k5 := (g5.below b1).cell; have l5 := (g5.below b1).free)
        refine bodyPost_ret (v := .tuple #[.agg #[.int .i64 0, .int .i64 0], .agg #[.int .i64 0, .int .u64 0], .int .i64 2]) (by simp [results, Try.results35, go_sem, k4, l4, k5, l5]) rfl ⟨rfl, ?_⟩
        replace B := B.trans (b1.mono B.size)
        (repeat (first | refine Below.setCell ?_ (by first | exact Nat.le_refl _ | (simp <;> omega)) _ | refine Below.alloc ?_ (by first | exact B.size | (have := B.size; simp <;> omega)) _)); exact B
  · have herr : L18.newErr l a = openErr l := by rw [L18.newErr, if_neg h0]
    have e1 : sl = 0 := h1.trans (if_neg (by rw [herr]; exact h0))
    have e2 : g = 0 := h2.trans (if_neg (by rw [herr]; exact h0))
    have e3 : ea = 0 := h3.trans (if_neg (by rw [herr]; exact h0))
    have e4 : ev = 0 := h4.trans (if_neg (by rw [herr]; exact h0))
    rw [herr] at h5
    clear h1 h2 h3 h4 herr
    subst e1 e2 e3 e4
    have B : Below w.heap.size w w := Below.refl _ _
    obtain ⟨V, hV⟩ : ∃ V, V = tab (tabOf l) := ⟨_, rfl⟩
    have OT := fun w h => open_any v l V hV r h5 w h
    have HOT := Lib.hid OT; have H := Lib.hid h; clear OT h
    have hVs : V.size = 48 := by rw [hV]; exact tabOf_size l
    have hV1 : V.all (·.oneCell') = true := by rw [hV]; exact tab_one _
    have HVs := Lib.hid hVs; have HV1 := Lib.hid hV1
    have hne : (r != 0) = true := by rw [bne_iff_ne, h5]; exact h0
    clear hVs hV1 hV h0 h5
    go_enter Try.func35, Try.ntmps35
    go_upto_region 1 with (fail)
    refine wp_gen (fun Wv => Bx Wv (w.heap.size) (35) (#[.int .i64 0, .int .i64 0]) ∧ Bx Wv (w.heap.size + 1) (50) (#[.int .i64 0, .int .u64 0]) ∧ Below w.heap.size w Wv) ⟨(((Bx.at_ (by simp)).alloc _)), ((Bx.at_ (by simp))), (((Below.refl _ w).alloc (by simp <;> omega) _).alloc (by simp <;> omega) _)⟩ ?_
    rintro w' ⟨g4, g5, b⟩
    replace B := B.trans (b.mono B.size); clear b
    have c_g4 := g4.cell; have f_g4 := g4.free; have a_g4 := fun o => (g4.alloc o).cell; have d_g4 := fun o o2 => ((g4.alloc o).alloc o2).cell; have e_g4 := fun o => (g4.alloc o).free
    have c_g5 := g5.cell; have f_g5 := g5.free; have a_g5 := fun o => (g5.alloc o).cell; have d_g5 := fun o o2 => ((g5.alloc o).alloc o2).cell; have e_g5 := fun o => (g5.alloc o).free
    go_wp2_with fail
    refine (HOT.out _ (H.out.below B)).mono ?_
    rintro e w' ⟨rfl, b⟩
    try clear c_g4 f_g4 a_g4 d_g4 e_g4
    replace g4 := g4.below b; have c_g4 := g4.cell; have f_g4 := g4.free; have a_g4 := fun o => (g4.alloc o).cell; have d_g4 := fun o o2 => ((g4.alloc o).alloc o2).cell; have e_g4 := fun o => (g4.alloc o).free; try clear c_g5 f_g5 a_g5 d_g5 e_g5
    replace g5 := g5.below b; have c_g5 := g5.cell; have f_g5 := g5.free; have a_g5 := fun o => (g5.alloc o).cell; have d_g5 := fun o o2 => ((g5.alloc o).alloc o2).cell; have e_g5 := fun o => (g5.alloc o).free; replace B := B.trans (b.mono B.size); clear b
    go_wp2_with ((with_reducible refine at_store 110 7 15 ?_); refine wpList_storeNew rfl _ _ _ rfl rfl V rfl rfl (by rw [HVs.out]; exact size_table) (by rw [HVs.out]; rfl) HV1.out ?_; intro W q1 b1; have k4 := (g4.below b1).cell; have l4 := (g4.below b1).free; have k5 := (g5.below b1).cell; have l5 := (g5.below b1).free)
    refine bodyPost_ret (v := .tuple #[.agg #[.int .i64 0, .int .i64 0], .agg #[.int .i64 0, .int .u64 0], .int .i64 r]) (by simp [results, Try.results35, go_sem, k4, l4, k5, l5]) rfl ⟨rfl, ?_⟩
    replace B := B.trans (b1.mono B.size)
    (repeat (first | refine Below.setCell ?_ (by first | exact Nat.le_refl _ | (simp <;> omega)) _ | refine Below.alloc ?_ (by first | exact B.size | (have := B.size; simp <;> omega)) _)); exact B
end Go.Proofs.Ytmbokdnndlnjkaa
namespace Go.Proofs.Ytmbokdnndlnjkaa
open Go.RowKit L01 L02 L18
theorem right_of {l : List UInt64} (h0 : openErr l = 0) : ∀ s ∈ slots l, Right s := by
  intro s hs
  obtain ⟨x, hx, rfl⟩ := List.mem_map.1 hs
  unfold openErr at h0
  split at h0
  · split at h0
    · rename_i h2 h3; exact h3 x hx
    · omega
  · omega
theorem rightErr_ok {L : List Sl} {sl g : Int} (h : rightErr L sl g = 0) : 0 ≤ sl ∧ sl < L.length ∧ ∃ s, L[sl.toNat]? = some s ∧ s.used = true ∧ s.gen = g := by
  unfold rightErr at h
  split at h
  · rename_i h1
    split at h
    · rename_i h2
      refine ⟨h1.1, h1.2, _, List.getElem?_eq_getElem (by omega), ?_⟩
      rw [List.getD_eq_getElem?_getD, List.getElem?_eq_getElem (by omega)] at h2
      exact h2
    · omega
  · omega
theorem drop_right {l : List UInt64} {sl g : Int} (h0 : openErr l = 0) (h : rightErr (slots l) sl g = 0) : Right ⟨g, false, 0⟩ ∧ 0 ≤ sl ∧ sl < 16 := by
  obtain ⟨h1, h2, s, h3, h4, h5⟩ := rightErr_ok h
  have hR := right_of h0 s (List.mem_of_getElem? h3)
  rw [slots16 h0] at h2
  refine ⟨⟨?_, ?_, fun _ => rfl, fun h => by simp at h⟩, h1, h2⟩
  · rw [← h5]; exact hR.1
  · rw [← h5]; exact hR.2.1
set_option maxRecDepth 100000 in
set_option maxHeartbeats 1000000 in
theorem Drop18_any (v : Value) (l : List UInt64) (sl g ea : Int) (ev : UInt64) (r : Int) (h1 : ea = dropAt l sl g) (h2 : ev = dropVal l sl g) (h3 : r = resErr l sl g) (w : World) (h : Words w v l) :
    Calls Try.prog 74 #[v, .agg #[.int .i64 sl, .int .i64 g]] w fun e w' => e = .returned (.tuple #[.agg #[.int .i64 ea, .int .u64 ev.toNat], .int .i64 r]) ∧ Below w.heap.size w w' := by
  have B : Below w.heap.size w w := Below.refl _ _
  obtain ⟨V, hV⟩ : ∃ V, V = tab (tabOf l) := ⟨_, rfl⟩
  obtain ⟨oe, hoe⟩ : ∃ oe, oe = openErr l := ⟨_, rfl⟩
  have OT := fun w h => open_any v l V hV oe hoe w h
  have HOT := Lib.hid OT; have H := Lib.hid h; clear OT h
  have hVs : V.size = 48 := by rw [hV]; exact tabOf_size l
  have hV1 : V.all (·.oneCell') = true := by rw [hV]; exact tab_one _
  have HVs := Lib.hid hVs; have HV1 := Lib.hid hV1
  clear hVs hV1
  by_cases h0 : openErr l = 0
  · have hr0 : r = rightErr (slots l) sl g := by rw [h3, resErr, if_pos h0]
    obtain ⟨s, hs⟩ : ∃ s, s = findS (slots l) sl g := ⟨_, rfl⟩
    have FT := fun w => find_any (slots l) (slots16 h0) V (by rw [hV, tabOf_ok h0]) sl g s r hs hr0 w
    have HFT := Lib.hid FT
    rw [h0] at hoe
    subst hoe
    by_cases hrr : r = 0
    · obtain ⟨hR, p1, p2⟩ := drop_right h0 (by rw [← hr0]; exact hrr)
      have e1 : ea = 112 + sl := by rw [h1, dropAt, if_pos (by rw [← h3]; exact hrr)]
      have e2 : ev = pk ⟨g, false, 0⟩ := by rw [h2, dropVal, if_pos (by rw [← h3]; exact hrr)]
      have PT := fun w => pack_any ⟨g, false, 0⟩ ev e2 hR w
      dsimp only at PT
      have HPT := Lib.hid PT
      have q0 := hR.1; have q1 := hR.2.1
      dsimp only at q0 q1
      clear FT h0 hV hs hr0 h1 h2 h3 hR e2 PT
      subst e1 hrr
      go_enter Try.func74, Try.ntmps74
      go_upto_region 1 with (fail)
      refine wp_gen (fun Wv => Bx Wv (w.heap.size) (35) (#[.int .i64 sl, .int .i64 g]) ∧ Bx Wv (w.heap.size + 1) (50) (#[.int .i64 0, .int .u64 0]) ∧ Below w.heap.size w Wv) ⟨(((Bx.at_ (by simp)).alloc _)), ((Bx.at_ (by simp))), (((Below.refl _ w).alloc (by simp <;> omega) _).alloc (by simp <;> omega) _)⟩ ?_
      rintro w' ⟨g3, g4, b⟩
      replace B := B.trans (b.mono B.size); clear b
      have c_g3 := g3.cell; have f_g3 := g3.free; have a_g3 := fun o => (g3.alloc o).cell; have d_g3 := fun o o2 => ((g3.alloc o).alloc o2).cell; have e_g3 := fun o => (g3.alloc o).free
      have c_g4 := g4.cell; have f_g4 := g4.free; have a_g4 := fun o => (g4.alloc o).cell; have d_g4 := fun o o2 => ((g4.alloc o).alloc o2).cell; have e_g4 := fun o => (g4.alloc o).free
      go_wp2_with fail
      refine (HOT.out _ (H.out.below B)).mono ?_
      rintro e w' ⟨rfl, b⟩
      try clear c_g3 f_g3 a_g3 d_g3 e_g3
      replace g3 := g3.below b; have c_g3 := g3.cell; have f_g3 := g3.free; have a_g3 := fun o => (g3.alloc o).cell; have d_g3 := fun o o2 => ((g3.alloc o).alloc o2).cell; have e_g3 := fun o => (g3.alloc o).free; try clear c_g4 f_g4 a_g4 d_g4 e_g4
      replace g4 := g4.below b; have c_g4 := g4.cell; have f_g4 := g4.free; have a_g4 := fun o => (g4.alloc o).cell; have d_g4 := fun o o2 => ((g4.alloc o).alloc o2).cell; have e_g4 := fun o => (g4.alloc o).free; replace B := B.trans (b.mono B.size); clear b
      go_wp2_with (first
        | ((with_reducible refine at_store 110 6 13 ?_); refine wpList_storeNew rfl _ _ _ rfl rfl V rfl rfl (by rw [HVs.out]; exact size_table) (by rw [HVs.out]; rfl) HV1.out ?_; intro W q1 b1; have k1 := (g3.below b1).cell)
        | ((with_reducible refine at_load 20 110 6 ?_); refine wpList_loadRow rfl _ _ rfl _ rfl q1 _ Try.underlying110 rfl (by rw [HVs.out]; exact size_table) ?_))
      refine (HFT.out _).mono ?_
      rintro e w2 ⟨rfl, b⟩
      replace B := (B.trans (b1.mono B.size)).trans (b.mono (Nat.le_trans B.size b1.size))
      replace g3 := (g3.below b1).below b; replace g4 := (g4.below b1).below b
      clear k1 b b1 q1 c_g3 f_g3 a_g3 d_g3 e_g3 c_g4 f_g4 a_g4 d_g4 e_g4
      go_wp2
      refine wp_gen (fun Wv => Below w2.heap.size w2 Wv) ((Below.refl _ w2).alloc (by simp <;> omega) _) ?_
      intro w' b
      try clear c_g3 f_g3 a_g3 d_g3 e_g3
      replace g3 := g3.below b; have c_g3 := g3.cell; have f_g3 := g3.free; have a_g3 := fun o => (g3.alloc o).cell; have d_g3 := fun o o2 => ((g3.alloc o).alloc o2).cell; have e_g3 := fun o => (g3.alloc o).free; try clear c_g4 f_g4 a_g4 d_g4 e_g4
      replace g4 := g4.below b; have c_g4 := g4.cell; have f_g4 := g4.free; have a_g4 := fun o => (g4.alloc o).cell; have d_g4 := fun o o2 => ((g4.alloc o).alloc o2).cell; have e_g4 := fun o => (g4.alloc o).free; replace B := B.trans (b.mono B.size); clear b
      have i0 : w'.cell? ⟨w.heap.size, 0, none⟩ = some (.int .i64 sl) := g3.cell 0
      have i1 : w'.cell? ⟨w.heap.size, 1, none⟩ = some (.int .i64 g) := g3.cell 1
      clear c_g3 f_g3 a_g3 d_g3 e_g3 c_g4 f_g4 a_g4 d_g4 e_g4
      have n4 : w.heap.size ≠ w.heap.size + 1 := by omega
      have hwk : IntKind.i64.wrap (112 + sl) = 112 + sl := IntWalk.i64_in _ (by omega)
      obtain ⟨W0, hW0⟩ : ∃ W0, W0 = w' := ⟨_, rfl⟩
      subst hW0
      go_region_held3 (fun Z => Z.cell? ⟨w.heap.size, 0, none⟩ = some (.int .i64 sl) ∧ Z.cell? ⟨w.heap.size, 1, none⟩ = some (.int .i64 g))
        (first
          | with_reducible exact ⟨j0, j1⟩
          | with_reducible exact ⟨cell_far (cell_far j0 n4) n4, cell_far (cell_far j1 n4) n4⟩
          | exact ⟨i0, i1⟩)
        ((go_at_call 67; (with_reducible refine (HPT.out _).mono ?_); rintro e W1 ⟨rfl, b⟩; have bb : Below W0.heap.size W0 W1 := ((Below.refl W0.heap.size W0).drew).trans b; have m3 := g3.below bb; have j0 : W1.cell? ⟨w.heap.size, 0, none⟩ = some (.int .i64 sl) := m3.cell 0; have j1 : W1.cell? ⟨w.heap.size, 1, none⟩ = some (.int .i64 g) := m3.cell 1; have m4 := g4.below bb; have k4 := m4.cell; have l4 := m4.free))
      go_wp2
      refine bodyPost_ret (v := .tuple #[.agg #[.int .i64 (112 + sl), .int .u64 ev.toNat], .int .i64 0]) (by simp [results, Try.results74, go_sem, k4, l4]) rfl ⟨rfl, ?_⟩
      replace B := B.trans (bb.mono B.size)
      (repeat (first | refine Below.setCell ?_ (by first | exact Nat.le_refl _ | (simp <;> omega)) _ | refine Below.alloc ?_ (by first | exact B.size | (have := B.size; simp <;> omega)) _)); exact B
    · have hne : (r != 0) = true := by rw [bne_iff_ne]; exact hrr
      have e1 : ea = 0 := by rw [h1, dropAt, if_neg (by rw [← h3]; exact hrr)]
      have e2 : ev = 0 := by rw [h2, dropVal, if_neg (by rw [← h3]; exact hrr)]
      clear FT h0 hV hs hr0 h1 h2 h3 hrr
      subst e1 e2
      go_enter Try.func74, Try.ntmps74
      go_upto_region 1 with (fail)
      refine wp_gen (fun Wv => Bx Wv (w.heap.size) (35) (#[.int .i64 sl, .int .i64 g]) ∧ Bx Wv (w.heap.size + 1) (50) (#[.int .i64 0, .int .u64 0]) ∧ Below w.heap.size w Wv) ⟨(((Bx.at_ (by simp)).alloc _)), ((Bx.at_ (by simp))), (((Below.refl _ w).alloc (by simp <;> omega) _).alloc (by simp <;> omega) _)⟩ ?_
      rintro w' ⟨g3, g4, b⟩
      replace B := B.trans (b.mono B.size); clear b
      have c_g3 := g3.cell; have f_g3 := g3.free; have a_g3 := fun o => (g3.alloc o).cell; have d_g3 := fun o o2 => ((g3.alloc o).alloc o2).cell; have e_g3 := fun o => (g3.alloc o).free
      have c_g4 := g4.cell; have f_g4 := g4.free; have a_g4 := fun o => (g4.alloc o).cell; have d_g4 := fun o o2 => ((g4.alloc o).alloc o2).cell; have e_g4 := fun o => (g4.alloc o).free
      go_wp2_with fail
      refine (HOT.out _ (H.out.below B)).mono ?_
      rintro e w' ⟨rfl, b⟩
      try clear c_g3 f_g3 a_g3 d_g3 e_g3
      replace g3 := g3.below b; have c_g3 := g3.cell; have f_g3 := g3.free; have a_g3 := fun o => (g3.alloc o).cell; have d_g3 := fun o o2 => ((g3.alloc o).alloc o2).cell; have e_g3 := fun o => (g3.alloc o).free; try clear c_g4 f_g4 a_g4 d_g4 e_g4
      replace g4 := g4.below b; have c_g4 := g4.cell; have f_g4 := g4.free; have a_g4 := fun o => (g4.alloc o).cell; have d_g4 := fun o o2 => ((g4.alloc o).alloc o2).cell; have e_g4 := fun o => (g4.alloc o).free; replace B := B.trans (b.mono B.size); clear b
      go_wp2_with (first
        | ((with_reducible refine at_store 110 6 13 ?_); refine wpList_storeNew rfl _ _ _ rfl rfl V rfl rfl (by rw [HVs.out]; exact size_table) (by rw [HVs.out]; rfl) HV1.out ?_; intro W q1 b1; have k1 := (g3.below b1).cell)
        | ((with_reducible refine at_load 20 110 6 ?_); refine wpList_loadRow rfl _ _ rfl _ rfl q1 _ Try.underlying110 rfl (by rw [HVs.out]; exact size_table) ?_))
      refine (HFT.out _).mono ?_
      rintro e w2 ⟨rfl, b⟩
      replace B := (B.trans (b1.mono B.size)).trans (b.mono (Nat.le_trans B.size b1.size))
      replace g4 := (g4.below b1).below b
      clear k1 b b1 q1 c_g3 f_g3 a_g3 d_g3 e_g3 c_g4 f_g4 a_g4 d_g4 e_g4
      have k4 := g4.cell; have l4 := g4.free; have m4 := fun o => (g4.alloc o).cell; have n4 := fun o => (g4.alloc o).free
      go_wp2
      refine bodyPost_ret (v := .tuple #[.agg #[.int .i64 0, .int .u64 0], .int .i64 r]) (by simp [results, Try.results74, go_sem, k4, l4, m4, n4]) rfl ⟨rfl, ?_⟩
      (repeat (first | refine Below.setCell ?_ (by first | exact Nat.le_refl _ | (simp <;> omega)) _ | refine Below.alloc ?_ (by first | exact B.size | (have := B.size; simp <;> omega)) _)); exact B
  · have hne : (oe != 0) = true := by rw [bne_iff_ne, hoe]; exact h0
    have hr0 : r = oe := by rw [h3, resErr, if_neg h0, hoe]
    have hrr : ¬ resErr l sl g = 0 := by rw [resErr, if_neg h0]; exact h0
    have e1 : ea = 0 := by rw [h1, dropAt, if_neg hrr]
    have e2 : ev = 0 := by rw [h2, dropVal, if_neg hrr]
    clear h0 hV hoe h1 h2 h3 hrr
    subst hr0 e1 e2
    go_enter Try.func74, Try.ntmps74
    go_upto_region 1 with (fail)
    refine wp_gen (fun Wv => Bx Wv (w.heap.size) (35) (#[.int .i64 sl, .int .i64 g]) ∧ Bx Wv (w.heap.size + 1) (50) (#[.int .i64 0, .int .u64 0]) ∧ Below w.heap.size w Wv) ⟨(((Bx.at_ (by simp)).alloc _)), ((Bx.at_ (by simp))), (((Below.refl _ w).alloc (by simp <;> omega) _).alloc (by simp <;> omega) _)⟩ ?_
    rintro w' ⟨g3, g4, b⟩
    replace B := B.trans (b.mono B.size); clear b
    have c_g3 := g3.cell; have f_g3 := g3.free; have a_g3 := fun o => (g3.alloc o).cell; have d_g3 := fun o o2 => ((g3.alloc o).alloc o2).cell; have e_g3 := fun o => (g3.alloc o).free
    have c_g4 := g4.cell; have f_g4 := g4.free; have a_g4 := fun o => (g4.alloc o).cell; have d_g4 := fun o o2 => ((g4.alloc o).alloc o2).cell; have e_g4 := fun o => (g4.alloc o).free
    go_wp2_with fail
    refine (HOT.out _ (H.out.below B)).mono ?_
    rintro e w' ⟨rfl, b⟩
    try clear c_g3 f_g3 a_g3 d_g3 e_g3
    replace g3 := g3.below b; have c_g3 := g3.cell; have f_g3 := g3.free; have a_g3 := fun o => (g3.alloc o).cell; have d_g3 := fun o o2 => ((g3.alloc o).alloc o2).cell; have e_g3 := fun o => (g3.alloc o).free; try clear c_g4 f_g4 a_g4 d_g4 e_g4
    replace g4 := g4.below b; have c_g4 := g4.cell; have f_g4 := g4.free; have a_g4 := fun o => (g4.alloc o).cell; have d_g4 := fun o o2 => ((g4.alloc o).alloc o2).cell; have e_g4 := fun o => (g4.alloc o).free; replace B := B.trans (b.mono B.size); clear b
    go_wp2_with ((with_reducible refine at_store 110 6 13 ?_); refine wpList_storeNew rfl _ _ _ rfl rfl V rfl rfl (by rw [HVs.out]; exact size_table) (by rw [HVs.out]; rfl) HV1.out ?_; intro W q1 b1; have k4 := (g4.below b1).cell; have l4 := (g4.below b1).free)
    refine bodyPost_ret (v := .tuple #[.agg #[.int .i64 0, .int .u64 0], .int .i64 r]) (by simp [results, Try.results74, go_sem, k4, l4]) rfl ⟨rfl, ?_⟩
    replace B := B.trans (b1.mono B.size)
    (repeat (first | refine Below.setCell ?_ (by first | exact Nat.le_refl _ | (simp <;> omega)) _ | refine Below.alloc ?_ (by first | exact B.size | (have := B.size; simp <;> omega)) _)); exact B
end Go.Proofs.Ytmbokdnndlnjkaa
namespace Go.Proofs.Ytmbokdnndlnjkaa
open Go.RowKit L01 L02 L18
theorem Slots.at_ {P : Program} {w : World} {v : Value} {L : List Sl} {t e : TypeId} (h : Slots w v L) (ht : P.underlying t = some (.slice e)) (hi : (P.info? e).map (·.size) = some 3) {k : Nat} (hk : k < L.length) :
    ∃ b o s, (∀ W, (Instr.indexAt t v (.int .i64 (k : Int))).run P W = .ok (.pointer (some ⟨b, o, none⟩)) W) ∧ w.cell? ⟨b, o, none⟩ = some (.int .i64 s.gen) ∧ w.cell? ⟨b, o + 1, none⟩ = some (.bool s.used) ∧ w.cell? ⟨b, o + 2, none⟩ = some (.int .i64 s.at_) ∧ Hid (L[k]? = some s) := by
  have hix := fun W => Rd.ixN h ht hi hk W
  obtain ⟨b, o, c, rfl, hb, hc, hcell⟩ := Rd.form h (by omega)
  have hs : L[k]? = some L[k] := List.getElem?_eq_getElem hk
  have t0 := tabL_get L k _ hs 0 (by omega)
  have t1 := tabL_get L k _ hs 1 (by omega)
  have t2 := tabL_get L k _ hs 2 (by omega)
  refine ⟨b, o + k * 3, L[k], fun W => hix W, hcell _ _ t0, hcell _ _ t1, hcell _ _ t2, Lib.hid hs⟩
end Go.Proofs.Ytmbokdnndlnjkaa
namespace Go.Proofs.Ytmbokdnndlnjkaa
open Go.RowKit L01 L02 L18
theorem OwnS.of {w : World} {B E n : Nat} {v : Value} {xs : List Value} {L : List Sl} (h : w.ownsRow B E 3 v n xs) (hx : xs = tabL L) : OwnS w B E v L := by
  subst hx
  have hn : n = L.length := by have := h.1; rw [tabL_len] at this; omega
  subst hn; exact h
end Go.Proofs.Ytmbokdnndlnjkaa
namespace Go.Proofs.Ytmbokdnndlnjkaa.L06
open L02 L05
def SupOk (W T : Int) : Prop := SizeOk W ∧ 0 ≤ T ∧ T ≤ 8
instance (W T : Int) : Decidable (SupOk W T) := inferInstanceAs (Decidable (SizeOk W ∧ 0 ≤ T ∧ T ≤ 8))
def magic : UInt64 := 32777959566500194
def u (n : Int) : UInt64 := UInt64.ofNat n.toNat
def body (W T : Int) : List UInt64 := [magic, 1, u W, u T, 0, 0, 0]
def wordsOf (W T : Int) : List UInt64 := body W T ++ [sum (body W T)]
def write (W T : Int) : List UInt64 := if SupOk W T then wordsOf W T else []
def at2 (l : List UInt64) : Int := (l.getD 2 0).toNat
def at3 (l : List UInt64) : Int := (l.getD 3 0).toNat
def ReadOk (l : List UInt64) : Prop := SupOk (at2 l) (at3 l) ∧ l = wordsOf (at2 l) (at3 l)
instance (l : List UInt64) : Decidable (ReadOk l) := inferInstanceAs (Decidable (SupOk (at2 l) (at3 l) ∧ l = wordsOf (at2 l) (at3 l)))
def rdW (l : List UInt64) : Int := if ReadOk l then at2 l else 0
def rdT (l : List UInt64) : Int := if ReadOk l then at3 l else 0
def rdErr (l : List UInt64) : Int := if l.length = 8 then (if ReadOk l then 0 else 50) else 2
theorem u_nat {n : Int} (h0 : 0 ≤ n) (h1 : n < 18446744073709551616) : ((u n).toNat : Int) = n := by
  unfold u; rw [UInt64.toNat_ofNat', Nat.mod_eq_of_lt (by omega)]; omega
theorem len_words (W T : Int) : (wordsOf W T).length = 8 := rfl
theorem readOk_len {l : List UInt64} (h : ReadOk l) : l.length = 8 := by rw [h.2]; rfl
theorem rd_no {l : List UInt64} (h : ¬ ReadOk l) : rdW l = 0 ∧ rdT l = 0 := ⟨if_neg h, if_neg h⟩
/-! ### the sum tells one byte -/
def inv : UInt64 := 14886173955864302971
end Go.Proofs.Ytmbokdnndlnjkaa.L06
namespace Go.Proofs.Ytmbokdnndlnjkaa.L07
open L02 L05 L06
def c0 (m : List UInt64) : List UInt64 := m.take 8
def c1 (m : List UInt64) : List UInt64 := (m.drop 8).take 8
def CopyOk (n : Nat) (l : List UInt64) : Prop := ReadOk l ∧ at2 l = (n : Int)
instance (n : Nat) (l : List UInt64) : Decidable (CopyOk n l) := inferInstanceAs (Decidable (ReadOk l ∧ at2 l = (n : Int)))
def is0 (m : List UInt64) : Bool := decide (SizeOk m.length ∧ CopyOk m.length (c0 m))
def is1 (m : List UInt64) : Bool := decide (SizeOk m.length ∧ CopyOk m.length (c1 m))
def rErr (m : List UInt64) : Int := if SizeOk m.length then (if is0 m = true ∨ is1 m = true then 0 else 50) else 8
/-- the copy that counts -/
def one (m : List UInt64) : List UInt64 := if is0 m = true then c0 m else c1 m
def sW (m : List UInt64) : Int := if rErr m = 0 then (m.length : Int) else 0
def sT (m : List UInt64) : Int := if rErr m = 0 then at3 (one m) else 0
def view (m : List UInt64) : List UInt64 := if rErr m = 0 then one m ++ (one m ++ m.drop 16) else []
def heals (m : List UInt64) : List (Int × UInt64) := if rErr m = 0 then (diffs m (view m)).map fun i => (i, (view m).getD i.toNat 0) else []
theorem c0_len {m : List UInt64} (h : SizeOk m.length) : (c0 m).length = 8 := by have := h.1; simp [c0]; omega
theorem c1_len {m : List UInt64} (h : SizeOk m.length) : (c1 m).length = 8 := by have := h.1; simp [c1]; omega
theorem rErr_ok {m : List UInt64} (h : rErr m = 0) : SizeOk m.length ∧ (is0 m = true ∨ is1 m = true) := by
  unfold rErr at h
  split at h
  · split at h
    · exact ⟨‹_›, ‹_›⟩
    · omega
  · omega
theorem rErr_mk {m : List UInt64} (h : SizeOk m.length) (h1 : is0 m = true ∨ is1 m = true) : rErr m = 0 := by rw [rErr, if_pos h, if_pos h1]
theorem rErr_no {m : List UInt64} (h : ¬ SizeOk m.length) : rErr m = 8 := if_neg h
theorem rErr_50 {m : List UInt64} (h : SizeOk m.length) (h0 : is0 m = false) (h1 : is1 m = false) : rErr m = 50 := by rw [rErr, if_pos h, if_neg (by simp [h0, h1])]
theorem is0_no {m : List UInt64} (h : ¬ SizeOk m.length) : is0 m = false := decide_eq_false (fun x => h x.1)
theorem is1_no {m : List UInt64} (h : ¬ SizeOk m.length) : is1 m = false := decide_eq_false (fun x => h x.1)
theorem is0_good {m : List UInt64} (h : SizeOk m.length) : is0 m = decide (CopyOk m.length (c0 m)) := by simp [is0, h]
theorem is1_good {m : List UInt64} (h : SizeOk m.length) : is1 m = decide (CopyOk m.length (c1 m)) := by simp [is1, h]
theorem one_good {m : List UInt64} (h : rErr m = 0) : CopyOk m.length (one m) := by
  obtain ⟨_, h1⟩ := rErr_ok h
  unfold one
  split
  · rename_i h0; exact (of_decide_eq_true h0).2
  · rename_i h0
    exact (of_decide_eq_true (h1.resolve_left h0)).2
theorem one_len {m : List UInt64} (h : rErr m = 0) : (one m).length = 8 := readOk_len (one_good h).1
theorem view_ok {m : List UInt64} (h : rErr m = 0) : view m = one m ++ (one m ++ m.drop 16) := if_pos h
theorem view_len {m : List UInt64} (h : rErr m = 0) : (view m).length = m.length := by
  have := (rErr_ok h).1.1
  rw [view_ok h]; simp [one_len h]; omega
section
variable {m a b : List UInt64}
end
/-- differences -/
theorem diffsTo_mem {a b : List UInt64} {k : Nat} {x : Int} (h : x ∈ diffsTo a b k) : ∃ i : Nat, x = (i : Int) ∧ i < k ∧ a[i]? ≠ b[i]? := by
  unfold diffsTo at h
  obtain ⟨i, hi, rfl⟩ := List.mem_map.1 h
  obtain ⟨h1, h2⟩ := List.mem_filter.1 hi
  exact ⟨i, rfl, List.mem_range.1 h1, of_decide_eq_true h2⟩
theorem diffsTo_more {a b : List UInt64} {n : Nat} (h : ∀ i, n ≤ i → a[i]? = b[i]?) : ∀ k, n ≤ k → diffsTo a b k = diffsTo a b n
  | 0, h0 => by rw [Nat.le_zero.1 h0]
  | k + 1, h0 => by
    by_cases hk : n = k + 1
    · rw [hk]
    · rw [diffsTo_succ, diffsTo_more h k (by omega), if_neg (by simp [h k (by omega)]), List.append_nil]
theorem diffsTo_congr {a b a' b' : List UInt64} {k : Nat} (h1 : ∀ i, i < k → a[i]? = a'[i]?) (h2 : ∀ i, i < k → b[i]? = b'[i]?) : diffsTo a b k = diffsTo a' b' k := by
  unfold diffsTo
  congr 1
  apply List.filter_congr
  intro i hi
  rw [h1 i (List.mem_range.1 hi), h2 i (List.mem_range.1 hi)]
section
variable {m : List UInt64}
theorem diff_ok (h : rErr m = 0) : diffErr m (view m) = 0 ∧ diffs m (view m) = diffsTo m (view m) m.length := by
  have h1 := (rErr_ok h).1
  have h2 := view_len h
  have e : diffErr m (view m) = 0 := by rw [diffErr, if_pos ⟨h1, by rw [h2]; exact h1⟩, if_pos h2.symm]
  exact ⟨e, if_pos e⟩
/-- behind the copies all is as it was -/
theorem view_far (h : rErr m = 0) {i : Nat} (hi : 16 ≤ i) : m[i]? = (view m)[i]? := by
  rw [view_ok h, List.getElem?_append_right (by rw [one_len h]; omega), List.getElem?_append_right (by rw [one_len h]; omega), List.getElem?_drop, one_len h]
  congr 1; omega
theorem heals_to (h : rErr m = 0) : heals m = (diffsTo m (view m) 16).map fun i => (i, (view m).getD i.toNat 0) := by
  have := (rErr_ok h).1.1
  rw [heals, if_pos h, (diff_ok h).2, diffsTo_more (fun i hi => view_far h hi) m.length (by omega)]
/-- TwinApart -/
theorem apart {k : Nat} (hk : 16 ≤ k) (x : UInt64) : rErr (m.set k x) = rErr m ∧ is0 (m.set k x) = is0 m ∧ is1 (m.set k x) = is1 m ∧ sW (m.set k x) = sW m ∧ sT (m.set k x) = sT m ∧ heals (m.set k x) = heals m := by
  have e0 : c0 (m.set k x) = c0 m := by rw [c0, List.take_set_of_le (by omega)]; rfl
  have e1 : c1 (m.set k x) = c1 m := by rw [c1, List.drop_set, if_neg (by omega), List.take_set_of_le (by omega)]; rfl
  have i0 : is0 (m.set k x) = is0 m := by unfold is0; rw [e0, List.length_set]
  have i1 : is1 (m.set k x) = is1 m := by unfold is1; rw [e1, List.length_set]
  have r : rErr (m.set k x) = rErr m := by unfold rErr; rw [i0, i1, List.length_set]
  have o : one (m.set k x) = one m := by unfold one; rw [i0, e0, e1]
  refine ⟨r, i0, i1, by unfold sW; rw [r, List.length_set], by unfold sT; rw [r, o], ?_⟩
  by_cases h : rErr m = 0
  · have h' : rErr (m.set k x) = 0 := r.trans h
    have ev : ∀ i, i < 16 → (view (m.set k x))[i]? = (view m)[i]? := fun i hi => by
      rw [view_ok h, view_ok h', o, ← List.append_assoc, ← List.append_assoc, List.getElem?_append_left (l₁ := one m ++ one m) (by simp [one_len h]; omega), List.getElem?_append_left (l₁ := one m ++ one m) (by simp [one_len h]; omega)]
    rw [heals_to h, heals_to h', diffsTo_congr (a' := m) (b' := view m) (fun i hi => by rw [List.getElem?_set_ne (by omega)]) ev]
    apply List.map_congr_left
    intro y hy
    obtain ⟨i, rfl, hi, _⟩ := diffsTo_mem hy
    simp only [Int.toNat_natCast, List.getD_eq_getElem?_getD, ev i hi]
  · rw [heals, if_neg (by rw [r]; exact h), heals, if_neg h]
end
/-- an image of zeros with a superblock in both copies -/
def made (W T : Int) : List UInt64 := wordsOf W T ++ (wordsOf W T ++ List.replicate (W.toNat - 16) 0)
theorem made_len {W T : Int} (h : SupOk W T) : (made W T).length = W.toNat := by
  have := h.1.1
  simp [made, len_words]; omega
end Go.Proofs.Ytmbokdnndlnjkaa.L07
namespace Go.Proofs.Ytmbokdnndlnjkaa.L18
open L02
theorem ws_set {l : List UInt64} {k : Nat} (x : UInt64) (hk : k < 16) : ws (l.set (112 + k) x) = (ws l).set k x := by
  unfold ws
  rw [List.drop_set, if_neg (by omega), show 112 + k - 112 = k by omega, List.take_set]
theorem slots_set {l : List UInt64} {k : Nat} (x : UInt64) (hk : k < 16) : slots (l.set (112 + k) x) = (slots l).set k (spl x) := by
  unfold slots
  rw [ws_set x hk, List.map_set]
theorem size_of {l : List UInt64} (h : openErr l = 0) : SizeOk l.length := by
  unfold openErr at h
  split at h
  · assumption
  · omega
theorem allR_of {l : List UInt64} (h : openErr l = 0) : AllR l := by
  unfold openErr at h
  split at h
  · split at h
    · assumption
    · omega
  · omega
theorem openErr_set {l : List UInt64} {k : Nat} {x : UInt64} (h : openErr l = 0) (hk : k < 16) (hx : Right (spl x)) : openErr (l.set (112 + k) x) = 0 := by
  have h1 := size_of h
  have h2 := allR_of h
  unfold openErr
  rw [List.length_set, if_pos h1, if_pos]
  intro y hy
  rw [ws_set x hk] at hy
  rcases List.mem_or_eq_of_mem_set hy with h3 | rfl
  · exact h2 y h3
  · exact hx
theorem slots_len' {l : List UInt64} (h : openErr l = 0) : (slots l).length = 16 := by
  have := (size_of h).1
  simp [slots, ws]; omega
theorem newErr_ok {l : List UInt64} {a : Int} (h : newErr l a = 0) : openErr l = 0 ∧ (128 ≤ a ∧ a < 2048) ∧ ∃ k, next (slots l) = some k := by
  unfold newErr at h
  split at h
  · rename_i h0
    split at h
    · rename_i h1
      split at h
      · omega
      · rename_i h2
        exact ⟨h0, h1, Option.ne_none_iff_exists'.1 h2⟩
    · omega
  · rename_i h0; exact absurd h h0
theorem nextFrom_some : ∀ {L : List Sl} {j k : Nat}, nextFrom L j = some k → j ≤ k ∧ (∃ s, L[k - j]? = some s ∧ s.used = false ∧ s.gen ≠ 2147483647) ∧ ∀ i s, i < k - j → L[i]? = some s → ¬ (s.used = false ∧ s.gen ≠ 2147483647)
  | [], _, _, h => by cases h
  | s :: L, j, k, h => by
    rw [nextFrom] at h
    split at h
    · rename_i h2
      injection h with h
      subst h
      exact ⟨Nat.le_refl _, ⟨s, by simp, h2⟩, fun i t hi => by omega⟩
    · rename_i h2
      obtain ⟨h1, ⟨t, h3, h4⟩, h5⟩ := nextFrom_some h
      refine ⟨by omega, ⟨t, by rw [show k - j = (k - (j + 1)) + 1 by omega, List.getElem?_cons_succ]; exact h3, h4⟩, fun i u hi hu => ?_⟩
      cases i with
      | zero => simp at hu; subst hu; exact h2
      | succ i => exact h5 i u (by omega) (by simpa using hu)
/-- what a new handle is -/
theorem new_spec {l : List UInt64} {a : Int} (h : newErr l a = 0) : ∃ (k : Nat) (s : Sl), k < 16 ∧ (slots l)[k]? = some s ∧ s.used = false ∧ s.gen ≠ 2147483647 ∧ Right s ∧ Right ⟨s.gen + 1, true, a⟩ ∧ newSlot l a = (k : Int) ∧ newGen l a = s.gen + 1 ∧ newAt l a = 112 + (k : Int) ∧ newVal l a = pk ⟨s.gen + 1, true, a⟩ ∧
    ∀ i t, i < k → (slots l)[i]? = some t → ¬ (t.used = false ∧ t.gen ≠ 2147483647) := by
  obtain ⟨h0, ha, k, hk⟩ := newErr_ok h
  obtain ⟨_, ⟨s, h1, h2, h3⟩, h4⟩ := nextFrom_some hk
  rw [Nat.sub_zero] at h1 h4
  have hk16 : k < 16 := by have := (List.getElem?_eq_some_iff.1 h1).1; rw [slots_len' h0] at this; exact this
  have hR : Right s := by
    obtain ⟨x, hx, hxs⟩ := List.mem_map.1 (List.mem_of_getElem? h1)
    rw [← hxs]; exact allR_of h0 x hx
  have e2 : newGen l a = s.gen + 1 := by rw [newGen, if_pos h, hk]; simp [List.getD_eq_getElem?_getD, h1]
  have g0 := hR.1; have g1 := hR.2.1
  refine ⟨k, s, hk16, h1, h2, h3, hR, ⟨by show 0 ≤ s.gen + 1; omega, by show s.gen + 1 ≤ 2147483647; omega, by simp, fun _ => ⟨by show 0 < s.gen + 1; omega, ha.1, ha.2⟩⟩, ?_, e2, ?_, ?_, h4⟩
  · rw [newSlot, if_pos h, hk]; rfl
  · rw [newAt, if_pos h, hk]; rfl
  · rw [newVal, if_pos h, e2]
theorem resErr_ok {l : List UInt64} {sl g : Int} (h : resErr l sl g = 0) : openErr l = 0 ∧ ∃ (k : Nat) (s : Sl), k < 16 ∧ sl = (k : Int) ∧ (slots l)[k]? = some s ∧ s.used = true ∧ s.gen = g ∧ Right s ∧ res l sl g = s.at_ := by
  have hr := h
  unfold resErr at h
  split at h
  · rename_i h0
    unfold rightErr at h
    rw [slots_len' h0] at h
    split at h
    · rename_i h1
      split at h
      · rename_i h2
        obtain ⟨k, rfl⟩ := Int.eq_ofNat_of_zero_le h1.1
        have hk : k < 16 := by omega
        have hs : (slots l)[k]? = some ((slots l)[k]'(by rw [slots_len' h0]; exact hk)) := List.getElem?_eq_getElem _
        have hgd : (slots l).getD (k : Int).toNat .none = (slots l)[k]'(by rw [slots_len' h0]; exact hk) := by simp [List.getD_eq_getElem?_getD, hs]
        rw [hgd] at h2
        refine ⟨h0, k, _, hk, rfl, hs, h2.1, h2.2, ?_, by rw [res, if_pos hr, hgd]⟩
        obtain ⟨x, hx, hxs⟩ := List.mem_map.1 (List.mem_of_getElem? hs)
        rw [← hxs]; exact allR_of h0 x hx
      · omega
    · omega
  · rename_i h0; exact absurd h h0
theorem resErr_at {l : List UInt64} {k : Nat} {s : Sl} (h : openErr l = 0) (hs : (slots l)[k]? = some s) (g : Int) : resErr l k g = (if s.used = true ∧ s.gen = g then 0 else 28) ∧ (s.used = true → s.gen = g → res l k g = s.at_) := by
  have hk : k < 16 := by have := (List.getElem?_eq_some_iff.1 hs).1; rw [slots_len' h] at this; exact this
  have hgd : (slots l).getD (k : Int).toNat .none = s := by simp [List.getD_eq_getElem?_getD, hs]
  have e : resErr l k g = (if s.used = true ∧ s.gen = g then 0 else 28) := by
    rw [resErr, if_pos h, rightErr, if_pos ⟨by omega, by rw [slots_len' h]; omega⟩, hgd]
  exact ⟨e, fun h1 h2 => by rw [res, e, if_pos (if_pos ⟨h1, h2⟩), hgd]⟩
end Go.Proofs.Ytmbokdnndlnjkaa.L18
namespace Go.Proofs.Ytmbokdnndlnjkaa.L20
open L02 L13 L18
structure Ob where
  ty : Int
  fs : List UInt64
deriving DecidableEq
structure Mo where
  types : List (List UInt8)
  objs : List Ob
  slots : List Sl
deriving DecidableEq
def Mo.nil : Mo := ⟨[], [], []⟩
def no : UInt64 := 9221120237041090561
def FloatOk (v : UInt64) : Prop := v.toNat = 9221120237041090561 ∨ v.toNat % 9223372036854775808 ≤ 9218868437227405312
instance (v : UInt64) : Decidable (FloatOk v) := inferInstanceAs (Decidable (_ ∨ _))
/-- a field of the kind k may hold v, with n objects -/
def FdOk (n : Nat) (k : UInt8) (v : UInt64) : Prop := (k.toNat = 2 → FloatOk v) ∧ (k.toNat = 3 → v.toNat ≤ n)
instance (n : Nat) (k : UInt8) (v : UInt64) : Decidable (FdOk n k v) := inferInstanceAs (Decidable (_ ∧ _))
def ty (T : List (List UInt8)) (o : Ob) : List UInt8 := T.getD o.ty.toNat []
def ObOk (T : List (List UInt8)) (n : Nat) (o : Ob) : Prop := (0 ≤ o.ty ∧ o.ty < T.length) ∧ o.fs.length = (ty T o).length ∧ ∀ i, i < o.fs.length → FdOk n ((ty T o).getD i 0) (o.fs.getD i 0)
instance (T : List (List UInt8)) (n : Nat) (o : Ob) : Decidable (ObOk T n o) := inferInstanceAs (Decidable (_ ∧ _ ∧ ∀ i, i < o.fs.length → _))
def SlOk (n : Nat) (s : Sl) : Prop := (0 ≤ s.gen ∧ s.gen ≤ 2147483647) ∧ (s.used = false → s.at_ = 0) ∧ (s.used = true → 0 < s.gen ∧ 0 ≤ s.at_ ∧ s.at_ < n)
instance (n : Nat) (s : Sl) : Decidable (SlOk n s) := inferInstanceAs (Decidable (_ ∧ _ ∧ _))
def MoOk (m : Mo) : Prop := m.slots.length = 16 ∧ (∀ t ∈ m.types, kErr t = 0) ∧ (∀ o ∈ m.objs, ObOk m.types m.objs.length o) ∧ ∀ s ∈ m.slots, SlOk m.objs.length s
instance (m : Mo) : Decidable (MoOk m) := inferInstanceAs (Decidable (_ ∧ _ ∧ _ ∧ _))
def chk (m : Mo) : Int := if 8 < m.types.length ∨ 960 < m.objs.length then 4 else if MoOk m then 0 else 8
/-- more than the statements consider -/
def Great (m : Mo) : Prop := (40 < m.objs.length ∧ m.objs.length < 960) ∨ 962 < m.objs.length ∨ 20 < m.types.length ∨ 30 < m.slots.length ∨ (∃ t ∈ m.types, 20 < t.length) ∨ ∃ o ∈ m.objs, 20 < o.fs.length
instance (m : Mo) : Decidable (Great m) := inferInstanceAs (Decidable (_ ∨ _ ∨ _ ∨ _ ∨ _ ∨ _))
def asked (m : Mo) (sl g : Int) : Int := if chk m = 0 then rightErr m.slots sl g else chk m
def own (m : Mo) (sl : Int) : Nat := (m.slots.getD sl.toNat .none).at_.toNat
def ob (m : Mo) (k : Nat) : Ob := m.objs.getD k ⟨0, []⟩
def kinds (m : Mo) (sl : Int) : List UInt8 := ty m.types (ob m (own m sl))
/-- the error of a field -/
def kErrF (m : Mo) (sl g n : Int) : Int := if asked m sl g = 0 then (if 0 ≤ n ∧ n < (kinds m sl).length then 0 else 2) else asked m sl g
def kind (m : Mo) (sl g n : Int) : UInt8 := if kErrF m sl g n = 0 then (kinds m sl).getD n.toNat 0 else 0
def fld (m : Mo) (sl n : Int) : UInt64 := (ob m (own m sl)).fs.getD n.toNat 0
def putF (m : Mo) (k i : Nat) (x : UInt64) : Mo := ⟨m.types, m.objs.set k ⟨(ob m k).ty, (ob m k).fs.set i x⟩, m.slots⟩
def put (m : Mo) (sl n : Int) (x : UInt64) : Mo := putF m (own m sl) n.toNat x
def getE (m : Mo) (sl g n : Int) : Int := if kErrF m sl g n = 0 then (if (kind m sl g n).toNat = 3 then 42 else 0) else kErrF m sl g n
def getV (m : Mo) (sl g n : Int) : UInt64 := if getE m sl g n = 0 then fld m sl n else 0
def setV (k : UInt8) (x : UInt64) : UInt64 := if k.toNat = 2 ∧ ¬ FloatOk x then no else x
def setM (m : Mo) (sl g n : Int) (x : UInt64) : Mo := if getE m sl g n = 0 then put m sl n (setV (kind m sl g n) x) else .nil
/-- the handle that is referred to, or none -/
def refE (m : Mo) (sl g n : Int) (tq : Option (Int × Int)) : Int := if kErrF m sl g n = 0 then (if (kind m sl g n).toNat = 3 then (match tq with | none => 0 | some t => rightErr m.slots t.1 t.2) else 42) else kErrF m sl g n
/-- a new slot -/
def givS (m : Mo) (n : Int) (k : Nat) : List Sl := m.slots.set k ⟨(m.slots.getD k .none).gen + 1, true, n⟩
theorem chk_ok {m : Mo} (h : chk m = 0) : m.types.length ≤ 8 ∧ m.objs.length ≤ 960 ∧ MoOk m := by
  unfold chk at h
  split at h
  · omega
  · split at h
    · exact ⟨by omega, by omega, by assumption⟩
    · omega
theorem chk_zero {m : Mo} (h : ¬ (8 < m.types.length ∨ 960 < m.objs.length)) (h2 : MoOk m) : chk m = 0 := by rw [chk, if_neg h, if_pos h2]
end Go.Proofs.Ytmbokdnndlnjkaa.L20
namespace Go.Proofs.Ytmbokdnndlnjkaa.L19
open L02 L07 L13 L14 L15 L18
/-- eight words are 0 -/
def Zr (l : List UInt64) (a : Nat) : Prop := ∀ i, i < 8 → l.getD (a + i) 0 = 0
instance (l : List UInt64) (a : Nat) : Decidable (Zr l a) := inferInstanceAs (Decidable (∀ i, i < 8 → _))
def objs (L : List Hb) : List Hb := L.filter fun b => decide (b.kind = 1)
/-- an object begins at an address -/
def IsObj (O : List Hb) (a : Int) : Prop := ∃ b ∈ O, b.at_ = a
instance (O : List Hb) (a : Int) : Decidable (IsObj O a) := inferInstanceAs (Decidable (∃ b ∈ O, _))
def kindsB (T : List (List UInt8)) (b : Hb) : List UInt8 := T.getD b.ty.toNat []
def fw (l : List UInt64) (b : Hb) (i : Nat) : UInt64 := l.getD (b.at_.toNat + 2 + i) 0
def Idle (b : Hb) : Prop := b.mark = false ∧ b.next = 0
instance (b : Hb) : Decidable (Idle b) := inferInstanceAs (Decidable (_ ∧ _))
def Typed (T : List (List UInt8)) (b : Hb) : Prop := b.ty < T.length ∧ b.size = 2 + (((kindsB T b).length + 1) / 2 * 2 : Nat)
instance (T : List (List UInt8)) (b : Hb) : Decidable (Typed T b) := inferInstanceAs (Decidable (_ ∧ _))
def Padded (l : List UInt64) (T : List (List UInt8)) (b : Hb) : Prop := (kindsB T b).length % 2 = 0 ∨ fw l b (kindsB T b).length = 0
instance (l : List UInt64) (T : List (List UInt8)) (b : Hb) : Decidable (Padded l T b) := inferInstanceAs (Decidable (_ ∨ _))
def FloatsB (l : List UInt64) (T : List (List UInt8)) (b : Hb) : Prop := ∀ i, i < (kindsB T b).length → ((kindsB T b).getD i 0).toNat = 2 → L20.FloatOk (fw l b i)
instance (l : List UInt64) (T : List (List UInt8)) (b : Hb) : Decidable (FloatsB l T b) := inferInstanceAs (Decidable (∀ i, i < _ → _))
def RefsB (l : List UInt64) (T : List (List UInt8)) (O : List Hb) (b : Hb) : Prop := ∀ i, i < (kindsB T b).length → ((kindsB T b).getD i 0).toNat = 3 → (fw l b i = 0 ∨ IsObj O (fw l b i).toNat)
instance (l : List UInt64) (T : List (List UInt8)) (O : List Hb) (b : Hb) : Decidable (RefsB l T O b) := inferInstanceAs (Decidable (∀ i, i < _ → _))
/-- what an object must have, by the number of the reason -/
def Good (l : List UInt64) (T : List (List UInt8)) (O : List Hb) (r : Nat) (b : Hb) : Prop :=
  match r with
  | 7 => Idle b
  | 8 => Typed T b
  | 9 => Padded l T b
  | 10 => FloatsB l T b
  | _ => RefsB l T O b
instance (l : List UInt64) (T : List (List UInt8)) (O : List Hb) (r : Nat) (b : Hb) : Decidable (Good l T O r b) := by
  unfold Good; split <;> infer_instance
def AllGood (l : List UInt64) (T : List (List UInt8)) (O : List Hb) (r : Nat) : Prop := ∀ b ∈ O, Good l T O r b
instance (l : List UInt64) (T : List (List UInt8)) (O : List Hb) (r : Nat) : Decidable (AllGood l T O r) := inferInstanceAs (Decidable (∀ b ∈ O, _))
def SlotsGood (S : List Sl) (O : List Hb) : Prop := ∀ s ∈ S, s.used = true → IsObj O s.at_
instance (S : List Sl) (O : List Hb) : Decidable (SlotsGood S O) := inferInstanceAs (Decidable (∀ s ∈ S, _ → _))
/-- the types, the slots, the blocks, the objects of an image -/
def T19 (l : List UInt64) : List (List UInt8) := tabT l (sT l)
def O19 (l : List UInt64) : List Hb := objs (allL l)
/-- the first of the reasons 1 to 6 -/
def why6 (l : List UInt64) : Nat :=
  if rErr l ≠ 0 then 1 else if ¬ Zr l 16 then 2 else if ¬ Zr l 24 then 3 else if tabErr l (sT l) ≠ 0 then 4 else if openErr l ≠ 0 then 5 else if allErr l ≠ 0 then 6 else 0
/-- the first of the reasons r to 11, or 0 -/
def whyO (l : List UInt64) (T : List (List UInt8)) (O : List Hb) : Nat → Nat → Nat
  | 0, _ => 0
  | f + 1, r => if AllGood l T O r then whyO l T O f (r + 1) else r
def why (l : List UInt64) : Nat :=
  if why6 l ≠ 0 then why6 l else if whyO l (T19 l) (O19 l) 5 7 ≠ 0 then whyO l (T19 l) (O19 l) 5 7 else if SlotsGood (slots l) (O19 l) then 0 else 12
def reaE (l : List UInt64) : Int := if SizeOk l.length then 0 else 8
def rea (l : List UInt64) : Nat := if SizeOk l.length then why l else 0
def chk19 (l : List UInt64) : Int := if SizeOk l.length then (if why l = 0 then 0 else 50) else 8
theorem whyO_zero {l : List UInt64} {T : List (List UInt8)} {O : List Hb} : ∀ (f r : Nat), 0 < r → (whyO l T O f r = 0 ↔ ∀ i, r ≤ i → i < r + f → AllGood l T O i)
  | 0, r, _ => ⟨fun _ i h1 h2 => by omega, fun _ => rfl⟩
  | f + 1, r, hr => by
    rw [whyO]
    by_cases h : AllGood l T O r
    · rw [if_pos h, whyO_zero f (r + 1) (by omega)]
      refine ⟨fun h2 i h3 h4 => ?_, fun h2 i h3 h4 => h2 i (by omega) (by omega)⟩
      by_cases hi : i = r
      · subst hi; exact h
      · exact h2 i (by omega) (by omega)
    · rw [if_neg h]
      exact ⟨fun h2 => by omega, fun h2 => absurd (h2 r (Nat.le_refl _) (by omega)) h⟩
theorem why6_zero {l : List UInt64} : why6 l = 0 ↔ rErr l = 0 ∧ Zr l 16 ∧ Zr l 24 ∧ tabErr l (sT l) = 0 ∧ openErr l = 0 ∧ allErr l = 0 := by
  unfold why6
  by_cases h1 : rErr l = 0 <;> by_cases h2 : Zr l 16 <;> by_cases h3 : Zr l 24 <;> by_cases h4 : tabErr l (sT l) = 0 <;> by_cases h5 : openErr l = 0 <;> by_cases h6 : allErr l = 0 <;> simp [h1, h2, h3, h4, h5, h6]
theorem why_zero {l : List UInt64} : why l = 0 ↔ why6 l = 0 ∧ (∀ i, 7 ≤ i → i < 12 → AllGood l (T19 l) (O19 l) i) ∧ SlotsGood (slots l) (O19 l) := by
  have h := whyO_zero (l := l) (T := T19 l) (O := O19 l) 5 7 (by omega)
  unfold why
  by_cases h1 : why6 l = 0
  · simp only [h1, ne_eq, not_true, if_false, true_and]
    by_cases h2 : whyO l (T19 l) (O19 l) 5 7 = 0
    · simp only [h2, ne_eq, not_true, if_false]
      have h2' := h.1 h2
      by_cases h3 : SlotsGood (slots l) (O19 l)
      · simp only [h3, if_true, and_true, true_iff]; exact h2'
      · simp [h3]
    · simp only [ne_eq, h2, not_false_eq_true, if_true, false_iff]
      exact fun hh => h2 (h.2 hh.1)
  · simp [h1]
theorem chk19_ok {l : List UInt64} (h : chk19 l = 0) : SizeOk l.length ∧ why l = 0 := by
  unfold chk19 at h
  split at h
  · split at h
    · rename_i h1 h2; exact ⟨h1, h2⟩
    · omega
  · omega
end Go.Proofs.Ytmbokdnndlnjkaa.L19
