/- Contracts of the reference of slots: new handles, dropping. -/
import Derived.Test.YteiocllnhljpjaaC18h
set_option linter.unusedVariables false
set_option linter.unusedSimpArgs false
namespace Go.Proofs.Yteiocllnhljpjaa
open Go.RowKit L01 L02 L18

theorem next_get : ∀ {L : List Sl} {j k : Nat}, nextFrom L j = some k → j ≤ k ∧ ∃ s, L[k - j]? = some s ∧ s.used = false ∧ s.gen ≠ 2147483647
  | [], _, _, h => by cases h
  | s :: L, j, k, h => by
    rw [nextFrom] at h
    split at h
    · rename_i h2
      injection h with h
      subst h
      exact ⟨Nat.le_refl _, s, by simp, h2⟩
    · obtain ⟨h1, t, h2, h3⟩ := next_get h
      exact ⟨by omega, t, by rw [show k - j = (k - (j + 1)) + 1 by omega, List.getElem?_cons_succ]; exact h2, h3⟩
theorem gen_le {l : List UInt64} (h0 : openErr l = 0) : ∀ s ∈ slots l, s.gen ≤ 2147483647 := fun s hs => (right_of h0 s hs).2.1

set_option maxRecDepth 100000 in
set_option maxHeartbeats 1000000 in
theorem NewR18_any (v : Value) (l : List UInt64) (a sl g ea : Int) (ev : UInt64) (r : Int) (h1 : sl = newSlot l a) (h2 : g = newGen l a) (h3 : ea = newAt l a) (h4 : ev = newVal l a) (h5 : r = L18.newErr l a) (w : World) (h : Words w v l) :
    Calls Try.prog 21 #[v, .int .i64 a] w fun e w' => e = .returned (.tuple #[.agg #[.int .i64 sl, .int .i64 g], .agg #[.int .i64 ea, .int .u64 ev.toNat], .int .i64 r]) ∧ Below w.heap.size w w' := by
  have B : Below w.heap.size w w := Below.refl _ _
  obtain ⟨L, hL⟩ : ∃ L, L = all l := ⟨_, rfl⟩
  obtain ⟨oe, hoe⟩ : ∃ oe, oe = openErr l := ⟨_, rfl⟩
  have AT := fun w h => AllR_any v l L oe hL hoe w h
  have HAT := Lib.hid AT; have H := Lib.hid h; clear AT h
  by_cases h0 : openErr l = 0
  · by_cases ha : 128 ≤ a ∧ a < 2048
    · have hLs : L = slots l := hL.trans (all_ok h0)
      obtain ⟨nx, hnx⟩ : ∃ nx, nx = nextI L := ⟨_, rfl⟩
      have NT := fun v w h => NextR_any v L nx hnx w h (by rw [hLs]; exact gen_le h0)
      have HNT := Lib.hid NT
      obtain ⟨a1, a2⟩ := ha
      cases hn : next (slots l) with
      | none =>
        have herr : L18.newErr l a = 23 := by rw [L18.newErr, if_pos h0, if_pos ⟨a1, a2⟩, if_pos hn]
        have e1 : sl = 0 := h1.trans (if_neg (by rw [herr]; omega))
        have e2 : g = 0 := h2.trans (if_neg (by rw [herr]; omega))
        have e3 : ea = 0 := h3.trans (if_neg (by rw [herr]; omega))
        have e4 : ev = 0 := h4.trans (if_neg (by rw [herr]; omega))
        rw [herr] at h5
        have hx : nx = -1 := by rw [hnx, nextI, hLs, hn]
        rw [h0] at hoe
        clear h1 h2 h3 h4 herr NT hn hnx hLs hL h0
        subst e1 e2 e3 e4 h5 hx hoe
        go_enter Try.func21, Try.ntmps21
        go_upto_region 1 with (fail)
        refine wp_gen (fun Wv => Bx Wv (w.heap.size) (39) (#[.int .i64 0, .int .i64 0]) ∧ Bx Wv (w.heap.size + 1) (52) (#[.int .i64 0, .int .u64 0]) ∧ Below w.heap.size w Wv) ⟨(((Bx.at_ (by simp)).alloc _)), ((Bx.at_ (by simp))), (((Below.refl _ w).alloc (by simp <;> omega) _).alloc (by simp <;> omega) _)⟩ ?_
        rintro w' ⟨g4, g5, b⟩
        replace B := B.trans (b.mono B.size); clear b
        have c_g4 := g4.cell; have f_g4 := g4.free; have a_g4 := fun o => (g4.alloc o).cell; have d_g4 := fun o o2 => ((g4.alloc o).alloc o2).cell; have e_g4 := fun o => (g4.alloc o).free
        have c_g5 := g5.cell; have f_g5 := g5.free; have a_g5 := fun o => (g5.alloc o).cell; have d_g5 := fun o o2 => ((g5.alloc o).alloc o2).cell; have e_g5 := fun o => (g5.alloc o).free
        go_wp2_with fail
        refine (HAT.out _ (H.out.below B)).mono ?_
        rintro e w' ⟨xv, E, rfl, r1, b⟩
        try clear c_g4 f_g4 a_g4 d_g4 e_g4
        replace g4 := g4.below b; have c_g4 := g4.cell; have f_g4 := g4.free; have a_g4 := fun o => (g4.alloc o).cell; have d_g4 := fun o o2 => ((g4.alloc o).alloc o2).cell; have e_g4 := fun o => (g4.alloc o).free; try clear c_g5 f_g5 a_g5 d_g5 e_g5
        replace g5 := g5.below b; have c_g5 := g5.cell; have f_g5 := g5.free; have a_g5 := fun o => (g5.alloc o).cell; have d_g5 := fun o o2 => ((g5.alloc o).alloc o2).cell; have e_g5 := fun o => (g5.alloc o).free; replace B := B.trans (b.mono B.size); clear b
        go_wp2_with fail
        refine (HNT.out _ _ r1.rd).mono ?_
        rintro e w2 ⟨rfl, rfl⟩
        go_wp2
        refine bodyPost_ret (v := .tuple #[.agg #[.int .i64 0, .int .i64 0], .agg #[.int .i64 0, .int .u64 0], .int .i64 23]) (by simp [results, Try.results21, go_sem, c_g4, f_g4, a_g4, e_g4, c_g5, f_g5, a_g5, e_g5]) rfl ?_
        refine ⟨rfl, ?_⟩
        (repeat (first | refine Below.setCell ?_ (by first | exact Nat.le_refl _ | (simp <;> omega)) _ | refine Below.alloc ?_ (by first | exact B.size | (have := B.size; simp <;> omega)) _)); exact B
      | some k =>
        have herr : L18.newErr l a = 0 := by rw [L18.newErr, if_pos h0, if_pos ⟨a1, a2⟩, if_neg (by rw [hn]; simp)]
        obtain ⟨_, s, p3, p4, p5⟩ := next_get hn
        rw [Nat.sub_zero, ← hLs] at p3
        have hR := right_of h0 s (by rw [← hLs]; exact List.mem_of_getElem? p3)
        have q0 := hR.1; have q1 := hR.2.1
        have e1 : sl = k := by rw [h1, newSlot, if_pos herr, hn]; rfl
        have e2 : g = s.gen + 1 := by rw [h2, newGen, if_pos herr, hn, ← hLs]; simp [List.getD_eq_getElem?_getD, p3]
        have e3 : ea = 112 + k := by rw [h3, newAt, if_pos herr, hn]; rfl
        have e4 : ev = pk ⟨s.gen + 1, true, a⟩ := by rw [h4, newVal, if_pos herr, ← h2, e2]
        have hR2 : Right ⟨s.gen + 1, true, a⟩ := ⟨by show 0 ≤ s.gen + 1; omega, by show s.gen + 1 ≤ 2147483647; omega, by simp, fun _ => ⟨by show 0 < s.gen + 1; omega, a1, a2⟩⟩
        have OT := fun w => OfR_any ⟨s.gen + 1, true, a⟩ ev e4 hR2 w
        dsimp only at OT
        have HOT := Lib.hid OT
        have hx : nx = k := by rw [hnx, nextI, hLs, hn]
        have hkL : k < L.length := (List.getElem?_eq_some_iff.1 p3).1
        have hk16 : k < 16 := by rw [hLs, slots16 h0] at hkL; exact hkL
        have HP := Lib.hid p3
        have hge : s.gen < 2147483647 := by omega
        rw [h0] at hoe; rw [herr] at h5
        clear h1 h2 h3 h4 herr NT OT hn hnx hLs hL h0 hR hR2 e4 p3 p5 p4
        subst e1 e2 e3 hx hoe h5
        go_enter Try.func21, Try.ntmps21
        go_upto_region 1 with (fail)
        refine wp_gen (fun Wv => Bx Wv (w.heap.size) (39) (#[.int .i64 0, .int .i64 0]) ∧ Bx Wv (w.heap.size + 1) (52) (#[.int .i64 0, .int .u64 0]) ∧ Below w.heap.size w Wv) ⟨(((Bx.at_ (by simp)).alloc _)), ((Bx.at_ (by simp))), (((Below.refl _ w).alloc (by simp <;> omega) _).alloc (by simp <;> omega) _)⟩ ?_
        rintro w' ⟨g4, g5, b⟩
        replace B := B.trans (b.mono B.size); clear b
        have c_g4 := g4.cell; have f_g4 := g4.free; have a_g4 := fun o => (g4.alloc o).cell; have d_g4 := fun o o2 => ((g4.alloc o).alloc o2).cell; have e_g4 := fun o => (g4.alloc o).free
        have c_g5 := g5.cell; have f_g5 := g5.free; have a_g5 := fun o => (g5.alloc o).cell; have d_g5 := fun o o2 => ((g5.alloc o).alloc o2).cell; have e_g5 := fun o => (g5.alloc o).free
        go_wp2_with fail
        refine (HAT.out _ (H.out.below B)).mono ?_
        rintro e w' ⟨xv, E, rfl, r1, b⟩
        try clear c_g4 f_g4 a_g4 d_g4 e_g4
        replace g4 := g4.below b; have c_g4 := g4.cell; have f_g4 := g4.free; have a_g4 := fun o => (g4.alloc o).cell; have d_g4 := fun o o2 => ((g4.alloc o).alloc o2).cell; have e_g4 := fun o => (g4.alloc o).free; try clear c_g5 f_g5 a_g5 d_g5 e_g5
        replace g5 := g5.below b; have c_g5 := g5.cell; have f_g5 := g5.free; have a_g5 := fun o => (g5.alloc o).cell; have d_g5 := fun o o2 => ((g5.alloc o).alloc o2).cell; have e_g5 := fun o => (g5.alloc o).free; replace B := B.trans (b.mono B.size); clear b
        go_wp2_with fail
        refine (HNT.out _ _ r1.rd).mono ?_
        rintro e w2 ⟨rfl, rfl⟩
        obtain ⟨b, o, t, ia, c0, c1, c2, ht⟩ := r1.rd.at_ (P := Try.prog) Try.underlying42 size_slot (k := k) hkL
        have hts : t = s := by have h1 := ht.out; rw [HP.out] at h1; injection h1 with h1; exact h1.symm
        subst hts
        clear ht
        have n0 : (0 : Int) ≤ (k : Int) := by omega
        go_wp2_with fail
        refine (HOT.out _).mono ?_
        rintro e w2 ⟨rfl, b⟩
        clear c0 c1 c2
        replace g4 := g4.below b; replace g5 := g5.below b; replace B := B.trans (b.mono B.size)
        clear c_g4 f_g4 a_g4 d_g4 e_g4 c_g5 f_g5 a_g5 d_g5 e_g5
        have k4 := g4.cell; have l4 := g4.free; have k5 := g5.cell; have l5 := g5.free
        go_wp2
        refine bodyPost_ret (v := .tuple #[.agg #[.int .i64 k, .int .i64 (t.gen + 1)], .agg #[.int .i64 (112 + k), .int .u64 ev.toNat], .int .i64 0]) (by simp [results, Try.results21, go_sem, k4, l4, k5, l5]) rfl ⟨rfl, ?_⟩
        (repeat (first | refine Below.setCell ?_ (by first | exact Nat.le_refl _ | (simp <;> omega)) _ | refine Below.alloc ?_ (by first | exact B.size | (have := B.size; simp <;> omega)) _)); exact B
    · have herr : L18.newErr l a = 2 := by rw [L18.newErr, if_pos h0, if_neg ha]
      have e1 : sl = 0 := h1.trans (if_neg (by rw [herr]; omega))
      have e2 : g = 0 := h2.trans (if_neg (by rw [herr]; omega))
      have e3 : ea = 0 := h3.trans (if_neg (by rw [herr]; omega))
      have e4 : ev = 0 := h4.trans (if_neg (by rw [herr]; omega))
      rw [herr] at h5; rw [h0] at hoe
      clear h1 h2 h3 h4 herr hL h0
      subst e1 e2 e3 e4 h5 hoe
      have hcase : a < 128 ∨ 128 ≤ a ∧ 2048 ≤ a := by omega
      clear ha
      rcases hcase with a1 | ⟨a1, a2⟩
      all_goals
        go_enter Try.func21, Try.ntmps21
        go_upto_region 1 with (fail)
        refine wp_gen (fun Wv => Bx Wv (w.heap.size) (39) (#[.int .i64 0, .int .i64 0]) ∧ Bx Wv (w.heap.size + 1) (52) (#[.int .i64 0, .int .u64 0]) ∧ Below w.heap.size w Wv) ⟨(((Bx.at_ (by simp)).alloc _)), ((Bx.at_ (by simp))), (((Below.refl _ w).alloc (by simp <;> omega) _).alloc (by simp <;> omega) _)⟩ ?_
        rintro w' ⟨g4, g5, b⟩
        replace B := B.trans (b.mono B.size); clear b
        have c_g4 := g4.cell; have f_g4 := g4.free; have a_g4 := fun o => (g4.alloc o).cell; have d_g4 := fun o o2 => ((g4.alloc o).alloc o2).cell; have e_g4 := fun o => (g4.alloc o).free
        have c_g5 := g5.cell; have f_g5 := g5.free; have a_g5 := fun o => (g5.alloc o).cell; have d_g5 := fun o o2 => ((g5.alloc o).alloc o2).cell; have e_g5 := fun o => (g5.alloc o).free
        go_wp2_with fail
        refine (HAT.out _ (H.out.below B)).mono ?_
        rintro e w' ⟨xv, E, rfl, r1, b⟩
        try clear c_g4 f_g4 a_g4 d_g4 e_g4
        replace g4 := g4.below b; have c_g4 := g4.cell; have f_g4 := g4.free; have a_g4 := fun o => (g4.alloc o).cell; have d_g4 := fun o o2 => ((g4.alloc o).alloc o2).cell; have e_g4 := fun o => (g4.alloc o).free; try clear c_g5 f_g5 a_g5 d_g5 e_g5
        replace g5 := g5.below b; have c_g5 := g5.cell; have f_g5 := g5.free; have a_g5 := fun o => (g5.alloc o).cell; have d_g5 := fun o o2 => ((g5.alloc o).alloc o2).cell; have e_g5 := fun o => (g5.alloc o).free; replace B := B.trans (b.mono B.size); clear b
        go_wp2
        refine bodyPost_ret (v := .tuple #[.agg #[.int .i64 0, .int .i64 0], .agg #[.int .i64 0, .int .u64 0], .int .i64 2]) (by simp [results, Try.results21, go_sem, c_g4, f_g4, a_g4, e_g4, c_g5, f_g5, a_g5, e_g5]) rfl ?_
        refine ⟨rfl, ?_⟩
        (repeat (first | refine Below.setCell ?_ (by first | exact Nat.le_refl _ | (simp <;> omega)) _ | refine Below.alloc ?_ (by first | exact B.size | (have := B.size; simp <;> omega)) _)); exact B
  · have herr : L18.newErr l a = openErr l := by rw [L18.newErr, if_neg h0]
    have e1 : sl = 0 := h1.trans (if_neg (by rw [herr]; exact h0))
    have e2 : g = 0 := h2.trans (if_neg (by rw [herr]; exact h0))
    have e3 : ea = 0 := h3.trans (if_neg (by rw [herr]; exact h0))
    have e4 : ev = 0 := h4.trans (if_neg (by rw [herr]; exact h0))
    have hr0 : r = oe := by rw [h5, herr, hoe]
    have hne : (oe != 0) = true := by rw [bne_iff_ne, hoe]; exact h0
    clear h1 h2 h3 h4 herr h0 hoe hL h5
    subst e1 e2 e3 e4 hr0
    go_enter Try.func21, Try.ntmps21
    go_upto_region 1 with (fail)
    refine wp_gen (fun Wv => Bx Wv (w.heap.size) (39) (#[.int .i64 0, .int .i64 0]) ∧ Bx Wv (w.heap.size + 1) (52) (#[.int .i64 0, .int .u64 0]) ∧ Below w.heap.size w Wv) ⟨(((Bx.at_ (by simp)).alloc _)), ((Bx.at_ (by simp))), (((Below.refl _ w).alloc (by simp <;> omega) _).alloc (by simp <;> omega) _)⟩ ?_
    rintro w' ⟨g4, g5, b⟩
    replace B := B.trans (b.mono B.size); clear b
    have c_g4 := g4.cell; have f_g4 := g4.free; have a_g4 := fun o => (g4.alloc o).cell; have d_g4 := fun o o2 => ((g4.alloc o).alloc o2).cell; have e_g4 := fun o => (g4.alloc o).free
    have c_g5 := g5.cell; have f_g5 := g5.free; have a_g5 := fun o => (g5.alloc o).cell; have d_g5 := fun o o2 => ((g5.alloc o).alloc o2).cell; have e_g5 := fun o => (g5.alloc o).free
    go_wp2_with fail
    refine (HAT.out _ (H.out.below B)).mono ?_
    rintro e w' ⟨xv, E, rfl, r1, b⟩
    try clear c_g4 f_g4 a_g4 d_g4 e_g4
    replace g4 := g4.below b; have c_g4 := g4.cell; have f_g4 := g4.free; have a_g4 := fun o => (g4.alloc o).cell; have d_g4 := fun o o2 => ((g4.alloc o).alloc o2).cell; have e_g4 := fun o => (g4.alloc o).free; try clear c_g5 f_g5 a_g5 d_g5 e_g5
    replace g5 := g5.below b; have c_g5 := g5.cell; have f_g5 := g5.free; have a_g5 := fun o => (g5.alloc o).cell; have d_g5 := fun o o2 => ((g5.alloc o).alloc o2).cell; have e_g5 := fun o => (g5.alloc o).free; replace B := B.trans (b.mono B.size); clear b
    go_wp2
    refine bodyPost_ret (v := .tuple #[.agg #[.int .i64 0, .int .i64 0], .agg #[.int .i64 0, .int .u64 0], .int .i64 r]) (by simp [results, Try.results21, go_sem, c_g4, f_g4, a_g4, e_g4, c_g5, f_g5, a_g5, e_g5]) rfl ?_
    refine ⟨rfl, ?_⟩
    (repeat (first | refine Below.setCell ?_ (by first | exact Nat.le_refl _ | (simp <;> omega)) _ | refine Below.alloc ?_ (by first | exact B.size | (have := B.size; simp <;> omega)) _)); exact B

set_option maxRecDepth 100000 in
set_option maxHeartbeats 1000000 in
theorem DropR18_any (v : Value) (l : List UInt64) (sl g ea : Int) (ev : UInt64) (r : Int) (h1 : ea = dropAt l sl g) (h2 : ev = dropVal l sl g) (h3 : r = resErr l sl g) (w : World) (h : Words w v l) :
    Calls Try.prog 23 #[v, .agg #[.int .i64 sl, .int .i64 g]] w fun e w' => e = .returned (.tuple #[.agg #[.int .i64 ea, .int .u64 ev.toNat], .int .i64 r]) ∧ Below w.heap.size w w' := by
  have B : Below w.heap.size w w := Below.refl _ _
  obtain ⟨rx, hrx⟩ : ∃ rx, rx = res l sl g := ⟨_, rfl⟩
  have RT := fun w h => ResolveR_any v l sl g rx r hrx h3 w h
  have HRT := Lib.hid RT; have H := Lib.hid h; clear RT h hrx
  by_cases hrr : r = 0
  · have hre : resErr l sl g = 0 := h3.symm.trans hrr
    have h0 : openErr l = 0 := by
      rcases Classical.em (openErr l = 0) with h | h
      · exact h
      · rw [resErr, if_neg h] at hre; exact hre
    obtain ⟨hR, p1, p2⟩ := drop_right h0 (by rw [resErr, if_pos h0] at hre; exact hre)
    have e1 : ea = 112 + sl := by rw [h1, dropAt, if_pos hre]
    have e2 : ev = pk ⟨g, false, 0⟩ := by rw [h2, dropVal, if_pos hre]
    have PT := fun w => OfR_any ⟨g, false, 0⟩ ev e2 hR w
    dsimp only at PT
    have HPT := Lib.hid PT
    clear h0 h1 h2 h3 hR e2 PT hre
    subst e1 hrr
    go_enter Try.func23, Try.ntmps23
    go_upto_region 1 with (fail)
    refine wp_gen (fun Wv => Bx Wv (w.heap.size) (39) (#[.int .i64 sl, .int .i64 g]) ∧ Bx Wv (w.heap.size + 1) (52) (#[.int .i64 0, .int .u64 0]) ∧ Below w.heap.size w Wv) ⟨(((Bx.at_ (by simp)).alloc _)), ((Bx.at_ (by simp))), (((Below.refl _ w).alloc (by simp <;> omega) _).alloc (by simp <;> omega) _)⟩ ?_
    rintro w' ⟨g3, g4, b⟩
    replace B := B.trans (b.mono B.size); clear b
    have c_g3 := g3.cell; have f_g3 := g3.free; have a_g3 := fun o => (g3.alloc o).cell; have d_g3 := fun o o2 => ((g3.alloc o).alloc o2).cell; have e_g3 := fun o => (g3.alloc o).free
    have c_g4 := g4.cell; have f_g4 := g4.free; have a_g4 := fun o => (g4.alloc o).cell; have d_g4 := fun o o2 => ((g4.alloc o).alloc o2).cell; have e_g4 := fun o => (g4.alloc o).free
    go_wp2_with fail
    refine (HRT.out _ (H.out.below B)).mono ?_
    rintro e w' ⟨rfl, b⟩
    try clear c_g3 f_g3 a_g3 d_g3 e_g3
    replace g3 := g3.below b; have c_g3 := g3.cell; have f_g3 := g3.free; have a_g3 := fun o => (g3.alloc o).cell; have d_g3 := fun o o2 => ((g3.alloc o).alloc o2).cell; have e_g3 := fun o => (g3.alloc o).free; try clear c_g4 f_g4 a_g4 d_g4 e_g4
    replace g4 := g4.below b; have c_g4 := g4.cell; have f_g4 := g4.free; have a_g4 := fun o => (g4.alloc o).cell; have d_g4 := fun o o2 => ((g4.alloc o).alloc o2).cell; have e_g4 := fun o => (g4.alloc o).free; replace B := B.trans (b.mono B.size); clear b
    go_wp2
    have i0 : w'.cell? ⟨w.heap.size, 0, none⟩ = some (.int .i64 sl) := g3.cell 0
    have i1 : w'.cell? ⟨w.heap.size, 1, none⟩ = some (.int .i64 g) := g3.cell 1
    clear c_g3 f_g3 a_g3 d_g3 e_g3 c_g4 f_g4 a_g4 d_g4 e_g4
    have n4 : w.heap.size ≠ w.heap.size + 1 := by omega
    have hwk : IntKind.i64.wrap (112 + sl) = 112 + sl := IntWalk.i64_in _ (by omega)
    obtain ⟨W0, hW0⟩ : ∃ W0, W0 = w' := ⟨_, rfl⟩
    subst hW0
    go_region_held3 (fun Z => Z.cell? ⟨w.heap.size, 0, none⟩ = some (.int .i64 sl) ∧ Z.cell? ⟨w.heap.size, 1, none⟩ = some (.int .i64 g))
      (first
        | with_reducible exact ⟨j0, j1⟩
        | with_reducible exact ⟨cell_far (cell_far j0 n4) n4, cell_far (cell_far j1 n4) n4⟩
        | exact ⟨i0, i1⟩)
      ((go_at_call 32; (with_reducible refine (HPT.out _).mono ?_); rintro e W1 ⟨rfl, b⟩; have bb : Below W0.heap.size W0 W1 := ((Below.refl W0.heap.size W0).drew).trans b; have m3 := g3.below bb; have j0 : W1.cell? ⟨w.heap.size, 0, none⟩ = some (.int .i64 sl) := m3.cell 0; have j1 : W1.cell? ⟨w.heap.size, 1, none⟩ = some (.int .i64 g) := m3.cell 1; have m4 := g4.below bb; have k4 := m4.cell; have l4 := m4.free))
    go_wp2
    refine bodyPost_ret (v := .tuple #[.agg #[.int .i64 (112 + sl), .int .u64 ev.toNat], .int .i64 0]) (by simp [results, Try.results23, go_sem, k4, l4]) rfl ⟨rfl, ?_⟩
    replace B := B.trans (bb.mono B.size)
    (repeat (first | refine Below.setCell ?_ (by first | exact Nat.le_refl _ | (simp <;> omega)) _ | refine Below.alloc ?_ (by first | exact B.size | (have := B.size; simp <;> omega)) _)); exact B
  · have hne : (r != 0) = true := by rw [bne_iff_ne]; exact hrr
    have e1 : ea = 0 := by rw [h1, dropAt, if_neg (by rw [← h3]; exact hrr)]
    have e2 : ev = 0 := by rw [h2, dropVal, if_neg (by rw [← h3]; exact hrr)]
    clear h1 h2 h3 hrr
    subst e1 e2
    go_enter Try.func23, Try.ntmps23
    go_upto_region 1 with (fail)
    refine wp_gen (fun Wv => Bx Wv (w.heap.size) (39) (#[.int .i64 sl, .int .i64 g]) ∧ Bx Wv (w.heap.size + 1) (52) (#[.int .i64 0, .int .u64 0]) ∧ Below w.heap.size w Wv) ⟨(((Bx.at_ (by simp)).alloc _)), ((Bx.at_ (by simp))), (((Below.refl _ w).alloc (by simp <;> omega) _).alloc (by simp <;> omega) _)⟩ ?_
    rintro w' ⟨g3, g4, b⟩
    replace B := B.trans (b.mono B.size); clear b
    have c_g3 := g3.cell; have f_g3 := g3.free; have a_g3 := fun o => (g3.alloc o).cell; have d_g3 := fun o o2 => ((g3.alloc o).alloc o2).cell; have e_g3 := fun o => (g3.alloc o).free
    have c_g4 := g4.cell; have f_g4 := g4.free; have a_g4 := fun o => (g4.alloc o).cell; have d_g4 := fun o o2 => ((g4.alloc o).alloc o2).cell; have e_g4 := fun o => (g4.alloc o).free
    go_wp2_with fail
    refine (HRT.out _ (H.out.below B)).mono ?_
    rintro e w' ⟨rfl, b⟩
    try clear c_g3 f_g3 a_g3 d_g3 e_g3
    replace g3 := g3.below b; have c_g3 := g3.cell; have f_g3 := g3.free; have a_g3 := fun o => (g3.alloc o).cell; have d_g3 := fun o o2 => ((g3.alloc o).alloc o2).cell; have e_g3 := fun o => (g3.alloc o).free; try clear c_g4 f_g4 a_g4 d_g4 e_g4
    replace g4 := g4.below b; have c_g4 := g4.cell; have f_g4 := g4.free; have a_g4 := fun o => (g4.alloc o).cell; have d_g4 := fun o o2 => ((g4.alloc o).alloc o2).cell; have e_g4 := fun o => (g4.alloc o).free; replace B := B.trans (b.mono B.size); clear b
    go_wp2
    refine bodyPost_ret (v := .tuple #[.agg #[.int .i64 0, .int .u64 0], .int .i64 r]) (by simp [results, Try.results23, go_sem, c_g3, f_g3, a_g3, e_g3, c_g4, f_g4, a_g4, e_g4]) rfl ?_
    refine ⟨rfl, ?_⟩
    (repeat (first | refine Below.setCell ?_ (by first | exact Nat.le_refl _ | (simp <;> omega)) _ | refine Below.alloc ?_ (by first | exact B.size | (have := B.size; simp <;> omega)) _)); exact B
end Go.Proofs.Yteiocllnhljpjaa
