/- Contracts of tables of slots: dropping. -/
import Derived.Test.YteiocllnhljpjaaC18e
set_option linter.unusedVariables false
set_option linter.unusedSimpArgs false
namespace Go.Proofs.Yteiocllnhljpjaa
open Go.RowKit L01 L02 L18

theorem right_of {l : List UInt64} (h0 : openErr l = 0) : ∀ s ∈ slots l, Right s := by
  intro s hs
  obtain ⟨x, hx, rfl⟩ := List.mem_map.1 hs
  unfold openErr at h0
  split at h0
  · split at h0
    · rename_i h2 h3; exact h3 x hx
    · omega
  · omega
theorem rightErr_ok {L : List Sl} {sl g : Int} (h : rightErr L sl g = 0) : 0 ≤ sl ∧ sl < L.length ∧ ∃ s, L[sl.toNat]? = some s ∧ s.used = true ∧ s.gen = g := by
  unfold rightErr at h
  split at h
  · rename_i h1
    split at h
    · rename_i h2
      refine ⟨h1.1, h1.2, _, List.getElem?_eq_getElem (by omega), ?_⟩
      rw [List.getD_eq_getElem?_getD, List.getElem?_eq_getElem (by omega)] at h2
      exact h2
    · omega
  · omega
theorem drop_right {l : List UInt64} {sl g : Int} (h0 : openErr l = 0) (h : rightErr (slots l) sl g = 0) : Right ⟨g, false, 0⟩ ∧ 0 ≤ sl ∧ sl < 16 := by
  obtain ⟨h1, h2, s, h3, h4, h5⟩ := rightErr_ok h
  have hR := right_of h0 s (List.mem_of_getElem? h3)
  rw [slots16 h0] at h2
  refine ⟨⟨?_, ?_, fun _ => rfl, fun h => by simp at h⟩, h1, h2⟩
  · rw [← h5]; exact hR.1
  · rw [← h5]; exact hR.2.1

set_option maxRecDepth 100000 in
set_option maxHeartbeats 1000000 in
theorem Drop18_any (v : Value) (l : List UInt64) (sl g ea : Int) (ev : UInt64) (r : Int) (h1 : ea = dropAt l sl g) (h2 : ev = dropVal l sl g) (h3 : r = resErr l sl g) (w : World) (h : Words w v l) :
    Calls Try.prog 22 #[v, .agg #[.int .i64 sl, .int .i64 g]] w fun e w' => e = .returned (.tuple #[.agg #[.int .i64 ea, .int .u64 ev.toNat], .int .i64 r]) ∧ Below w.heap.size w w' := by
  have B : Below w.heap.size w w := Below.refl _ _
  obtain ⟨V, hV⟩ : ∃ V, V = tab (tabOf l) := ⟨_, rfl⟩
  obtain ⟨oe, hoe⟩ : ∃ oe, oe = openErr l := ⟨_, rfl⟩
  have OT := fun w h => open_any v l V hV oe hoe w h
  have HOT := Lib.hid OT; have H := Lib.hid h; clear OT h
  have hVs : V.size = 48 := by rw [hV]; exact tabOf_size l
  have hV1 : V.all (·.oneCell') = true := by rw [hV]; exact tab_one _
  have HVs := Lib.hid hVs; have HV1 := Lib.hid hV1
  clear hVs hV1
  by_cases h0 : openErr l = 0
  · have hr0 : r = rightErr (slots l) sl g := by rw [h3, resErr, if_pos h0]
    obtain ⟨s, hs⟩ : ∃ s, s = findS (slots l) sl g := ⟨_, rfl⟩
    have FT := fun w => find_any (slots l) (slots16 h0) V (by rw [hV, tabOf_ok h0]) sl g s r hs hr0 w
    have HFT := Lib.hid FT
    rw [h0] at hoe
    subst hoe
    by_cases hrr : r = 0
    · obtain ⟨hR, p1, p2⟩ := drop_right h0 (by rw [← hr0]; exact hrr)
      have e1 : ea = 112 + sl := by rw [h1, dropAt, if_pos (by rw [← h3]; exact hrr)]
      have e2 : ev = pk ⟨g, false, 0⟩ := by rw [h2, dropVal, if_pos (by rw [← h3]; exact hrr)]
      have PT := fun w => pack_any ⟨g, false, 0⟩ ev e2 hR w
      dsimp only at PT
      have HPT := Lib.hid PT
      have q0 := hR.1; have q1 := hR.2.1
      dsimp only at q0 q1
      clear FT h0 hV hs hr0 h1 h2 h3 hR e2 PT
      subst e1 hrr
      go_enter Try.func22, Try.ntmps22
      go_upto_region 1 with (fail)
      refine wp_gen (fun Wv => Bx Wv (w.heap.size) (39) (#[.int .i64 sl, .int .i64 g]) ∧ Bx Wv (w.heap.size + 1) (52) (#[.int .i64 0, .int .u64 0]) ∧ Below w.heap.size w Wv) ⟨(((Bx.at_ (by simp)).alloc _)), ((Bx.at_ (by simp))), (((Below.refl _ w).alloc (by simp <;> omega) _).alloc (by simp <;> omega) _)⟩ ?_
      rintro w' ⟨g3, g4, b⟩
      replace B := B.trans (b.mono B.size); clear b
      have c_g3 := g3.cell; have f_g3 := g3.free; have a_g3 := fun o => (g3.alloc o).cell; have d_g3 := fun o o2 => ((g3.alloc o).alloc o2).cell; have e_g3 := fun o => (g3.alloc o).free
      have c_g4 := g4.cell; have f_g4 := g4.free; have a_g4 := fun o => (g4.alloc o).cell; have d_g4 := fun o o2 => ((g4.alloc o).alloc o2).cell; have e_g4 := fun o => (g4.alloc o).free
      go_wp2_with fail
      refine (HOT.out _ (H.out.below B)).mono ?_
      rintro e w' ⟨rfl, b⟩
      try clear c_g3 f_g3 a_g3 d_g3 e_g3
      replace g3 := g3.below b; have c_g3 := g3.cell; have f_g3 := g3.free; have a_g3 := fun o => (g3.alloc o).cell; have d_g3 := fun o o2 => ((g3.alloc o).alloc o2).cell; have e_g3 := fun o => (g3.alloc o).free; try clear c_g4 f_g4 a_g4 d_g4 e_g4
      replace g4 := g4.below b; have c_g4 := g4.cell; have f_g4 := g4.free; have a_g4 := fun o => (g4.alloc o).cell; have d_g4 := fun o o2 => ((g4.alloc o).alloc o2).cell; have e_g4 := fun o => (g4.alloc o).free; replace B := B.trans (b.mono B.size); clear b
      go_wp2_with (first
        | ((with_reducible refine at_store 78 6 13 ?_); refine wpList_storeNew rfl _ _ _ rfl rfl V rfl rfl (by rw [HVs.out]; exact size_table) (by rw [HVs.out]; rfl) HV1.out ?_; intro W q1 b1; have k1 := (g3.below b1).cell)
        | ((with_reducible refine at_load 20 78 6 ?_); refine wpList_loadRow rfl _ _ rfl _ rfl q1 _ Try.underlying78 rfl (by rw [HVs.out]; exact size_table) ?_))
      refine (HFT.out _).mono ?_
      rintro e w2 ⟨rfl, b⟩
      replace B := (B.trans (b1.mono B.size)).trans (b.mono (Nat.le_trans B.size b1.size))
      replace g3 := (g3.below b1).below b; replace g4 := (g4.below b1).below b
      clear k1 b b1 q1 c_g3 f_g3 a_g3 d_g3 e_g3 c_g4 f_g4 a_g4 d_g4 e_g4
      go_wp2
      refine wp_gen (fun Wv => Below w2.heap.size w2 Wv) ((Below.refl _ w2).alloc (by simp <;> omega) _) ?_
      intro w' b
      try clear c_g3 f_g3 a_g3 d_g3 e_g3
      replace g3 := g3.below b; have c_g3 := g3.cell; have f_g3 := g3.free; have a_g3 := fun o => (g3.alloc o).cell; have d_g3 := fun o o2 => ((g3.alloc o).alloc o2).cell; have e_g3 := fun o => (g3.alloc o).free; try clear c_g4 f_g4 a_g4 d_g4 e_g4
      replace g4 := g4.below b; have c_g4 := g4.cell; have f_g4 := g4.free; have a_g4 := fun o => (g4.alloc o).cell; have d_g4 := fun o o2 => ((g4.alloc o).alloc o2).cell; have e_g4 := fun o => (g4.alloc o).free; replace B := B.trans (b.mono B.size); clear b
      have i0 : w'.cell? ⟨w.heap.size, 0, none⟩ = some (.int .i64 sl) := g3.cell 0
      have i1 : w'.cell? ⟨w.heap.size, 1, none⟩ = some (.int .i64 g) := g3.cell 1
      clear c_g3 f_g3 a_g3 d_g3 e_g3 c_g4 f_g4 a_g4 d_g4 e_g4
      have n4 : w.heap.size ≠ w.heap.size + 1 := by omega
      have hwk : IntKind.i64.wrap (112 + sl) = 112 + sl := IntWalk.i64_in _ (by omega)
      obtain ⟨W0, hW0⟩ : ∃ W0, W0 = w' := ⟨_, rfl⟩
      subst hW0
      go_region_held3 (fun Z => Z.cell? ⟨w.heap.size, 0, none⟩ = some (.int .i64 sl) ∧ Z.cell? ⟨w.heap.size, 1, none⟩ = some (.int .i64 g))
        (first
          | with_reducible exact ⟨j0, j1⟩
          | with_reducible exact ⟨cell_far (cell_far j0 n4) n4, cell_far (cell_far j1 n4) n4⟩
          | exact ⟨i0, i1⟩)
        ((go_at_call 30; (with_reducible refine (HPT.out _).mono ?_); rintro e W1 ⟨rfl, b⟩; have bb : Below W0.heap.size W0 W1 := ((Below.refl W0.heap.size W0).drew).trans b; have m3 := g3.below bb; have j0 : W1.cell? ⟨w.heap.size, 0, none⟩ = some (.int .i64 sl) := m3.cell 0; have j1 : W1.cell? ⟨w.heap.size, 1, none⟩ = some (.int .i64 g) := m3.cell 1; have m4 := g4.below bb; have k4 := m4.cell; have l4 := m4.free))
      go_wp2
      refine bodyPost_ret (v := .tuple #[.agg #[.int .i64 (112 + sl), .int .u64 ev.toNat], .int .i64 0]) (by simp [results, Try.results22, go_sem, k4, l4]) rfl ⟨rfl, ?_⟩
      replace B := B.trans (bb.mono B.size)
      (repeat (first | refine Below.setCell ?_ (by first | exact Nat.le_refl _ | (simp <;> omega)) _ | refine Below.alloc ?_ (by first | exact B.size | (have := B.size; simp <;> omega)) _)); exact B
    · have hne : (r != 0) = true := by rw [bne_iff_ne]; exact hrr
      have e1 : ea = 0 := by rw [h1, dropAt, if_neg (by rw [← h3]; exact hrr)]
      have e2 : ev = 0 := by rw [h2, dropVal, if_neg (by rw [← h3]; exact hrr)]
      clear FT h0 hV hs hr0 h1 h2 h3 hrr
      subst e1 e2
      go_enter Try.func22, Try.ntmps22
      go_upto_region 1 with (fail)
      refine wp_gen (fun Wv => Bx Wv (w.heap.size) (39) (#[.int .i64 sl, .int .i64 g]) ∧ Bx Wv (w.heap.size + 1) (52) (#[.int .i64 0, .int .u64 0]) ∧ Below w.heap.size w Wv) ⟨(((Bx.at_ (by simp)).alloc _)), ((Bx.at_ (by simp))), (((Below.refl _ w).alloc (by simp <;> omega) _).alloc (by simp <;> omega) _)⟩ ?_
      rintro w' ⟨g3, g4, b⟩
      replace B := B.trans (b.mono B.size); clear b
      have c_g3 := g3.cell; have f_g3 := g3.free; have a_g3 := fun o => (g3.alloc o).cell; have d_g3 := fun o o2 => ((g3.alloc o).alloc o2).cell; have e_g3 := fun o => (g3.alloc o).free
      have c_g4 := g4.cell; have f_g4 := g4.free; have a_g4 := fun o => (g4.alloc o).cell; have d_g4 := fun o o2 => ((g4.alloc o).alloc o2).cell; have e_g4 := fun o => (g4.alloc o).free
      go_wp2_with fail
      refine (HOT.out _ (H.out.below B)).mono ?_
      rintro e w' ⟨rfl, b⟩
      try clear c_g3 f_g3 a_g3 d_g3 e_g3
      replace g3 := g3.below b; have c_g3 := g3.cell; have f_g3 := g3.free; have a_g3 := fun o => (g3.alloc o).cell; have d_g3 := fun o o2 => ((g3.alloc o).alloc o2).cell; have e_g3 := fun o => (g3.alloc o).free; try clear c_g4 f_g4 a_g4 d_g4 e_g4
      replace g4 := g4.below b; have c_g4 := g4.cell; have f_g4 := g4.free; have a_g4 := fun o => (g4.alloc o).cell; have d_g4 := fun o o2 => ((g4.alloc o).alloc o2).cell; have e_g4 := fun o => (g4.alloc o).free; replace B := B.trans (b.mono B.size); clear b
      go_wp2_with (first
        | ((with_reducible refine at_store 78 6 13 ?_); refine wpList_storeNew rfl _ _ _ rfl rfl V rfl rfl (by rw [HVs.out]; exact size_table) (by rw [HVs.out]; rfl) HV1.out ?_; intro W q1 b1; have k1 := (g3.below b1).cell)
        | ((with_reducible refine at_load 20 78 6 ?_); refine wpList_loadRow rfl _ _ rfl _ rfl q1 _ Try.underlying78 rfl (by rw [HVs.out]; exact size_table) ?_))
      refine (HFT.out _).mono ?_
      rintro e w2 ⟨rfl, b⟩
      replace B := (B.trans (b1.mono B.size)).trans (b.mono (Nat.le_trans B.size b1.size))
      replace g4 := (g4.below b1).below b
      clear k1 b b1 q1 c_g3 f_g3 a_g3 d_g3 e_g3 c_g4 f_g4 a_g4 d_g4 e_g4
      have k4 := g4.cell; have l4 := g4.free; have m4 := fun o => (g4.alloc o).cell; have n4 := fun o => (g4.alloc o).free
      go_wp2
      refine bodyPost_ret (v := .tuple #[.agg #[.int .i64 0, .int .u64 0], .int .i64 r]) (by simp [results, Try.results22, go_sem, k4, l4, m4, n4]) rfl ⟨rfl, ?_⟩
      (repeat (first | refine Below.setCell ?_ (by first | exact Nat.le_refl _ | (simp <;> omega)) _ | refine Below.alloc ?_ (by first | exact B.size | (have := B.size; simp <;> omega)) _)); exact B
  · have hne : (oe != 0) = true := by rw [bne_iff_ne, hoe]; exact h0
    have hr0 : r = oe := by rw [h3, resErr, if_neg h0, hoe]
    have hrr : ¬ resErr l sl g = 0 := by rw [resErr, if_neg h0]; exact h0
    have e1 : ea = 0 := by rw [h1, dropAt, if_neg hrr]
    have e2 : ev = 0 := by rw [h2, dropVal, if_neg hrr]
    clear h0 hV hoe h1 h2 h3 hrr
    subst hr0 e1 e2
    go_enter Try.func22, Try.ntmps22
    go_upto_region 1 with (fail)
    refine wp_gen (fun Wv => Bx Wv (w.heap.size) (39) (#[.int .i64 sl, .int .i64 g]) ∧ Bx Wv (w.heap.size + 1) (52) (#[.int .i64 0, .int .u64 0]) ∧ Below w.heap.size w Wv) ⟨(((Bx.at_ (by simp)).alloc _)), ((Bx.at_ (by simp))), (((Below.refl _ w).alloc (by simp <;> omega) _).alloc (by simp <;> omega) _)⟩ ?_
    rintro w' ⟨g3, g4, b⟩
    replace B := B.trans (b.mono B.size); clear b
    have c_g3 := g3.cell; have f_g3 := g3.free; have a_g3 := fun o => (g3.alloc o).cell; have d_g3 := fun o o2 => ((g3.alloc o).alloc o2).cell; have e_g3 := fun o => (g3.alloc o).free
    have c_g4 := g4.cell; have f_g4 := g4.free; have a_g4 := fun o => (g4.alloc o).cell; have d_g4 := fun o o2 => ((g4.alloc o).alloc o2).cell; have e_g4 := fun o => (g4.alloc o).free
    go_wp2_with fail
    refine (HOT.out _ (H.out.below B)).mono ?_
    rintro e w' ⟨rfl, b⟩
    try clear c_g3 f_g3 a_g3 d_g3 e_g3
    replace g3 := g3.below b; have c_g3 := g3.cell; have f_g3 := g3.free; have a_g3 := fun o => (g3.alloc o).cell; have d_g3 := fun o o2 => ((g3.alloc o).alloc o2).cell; have e_g3 := fun o => (g3.alloc o).free; try clear c_g4 f_g4 a_g4 d_g4 e_g4
    replace g4 := g4.below b; have c_g4 := g4.cell; have f_g4 := g4.free; have a_g4 := fun o => (g4.alloc o).cell; have d_g4 := fun o o2 => ((g4.alloc o).alloc o2).cell; have e_g4 := fun o => (g4.alloc o).free; replace B := B.trans (b.mono B.size); clear b
    go_wp2_with ((with_reducible refine at_store 78 6 13 ?_); refine wpList_storeNew rfl _ _ _ rfl rfl V rfl rfl (by rw [HVs.out]; exact size_table) (by rw [HVs.out]; rfl) HV1.out ?_; intro W q1 b1; have k4 := (g4.below b1).cell; have l4 := (g4.below b1).free)
    refine bodyPost_ret (v := .tuple #[.agg #[.int .i64 0, .int .u64 0], .int .i64 r]) (by simp [results, Try.results22, go_sem, k4, l4]) rfl ⟨rfl, ?_⟩
    replace B := B.trans (b1.mono B.size)
    (repeat (first | refine Below.setCell ?_ (by first | exact Nat.le_refl _ | (simp <;> omega)) _ | refine Below.alloc ?_ (by first | exact B.size | (have := B.size; simp <;> omega)) _)); exact B
end Go.Proofs.Yteiocllnhljpjaa
