/- Contracts of the functions that the laws 'N' reach, part 17. No condition. -/
import Derived.Test.YtodbbacmdjcheaaMNp
set_option linter.unusedVariables false
set_option linter.unusedSimpArgs false
namespace Go.Proofs.Ytodbbacmdjcheaa
open Go.RowKit L01 L02 L05 L06 L07 L13 L14 L15 L16 L18 L19
theorem lit_two {w : World} {e : TypeId} {n : Nat} (hn : w.heap.size = n) (v1 v2 : Value) : Rd (w.alloc (.cells #[v1, v2] e)) 1 (.slice (some ⟨n, 0, none⟩) 2 2) 2 [v1, v2] := by
  subst hn; exact lit_rdN rfl (by omega)
set_option maxRecDepth 100000 in
set_option maxHeartbeats 8000000 in
theorem Change_any (v : Value) (l : List UInt64) (ti : Int) (E : List (Int × UInt64)) (s1 s2 r : Int) (hx : E = aiL l ti) (hs1 : s1 = aiS l ti) (hs2 : s2 = aiG l ti) (hr : r = aiE l ti) (w : World) (h : Words w v l) :
    Calls Try.prog 24 #[v, .int .i64 ti] w fun e w' => ∃ y, e = .returned (.tuple #[y, .agg #[.int .i64 s1, .int .i64 s2], .int .i64 r]) ∧ OwnE w' w.heap.size y E ∧ Below w.heap.size w w' := by
  have B : Below w.heap.size w w := Below.refl _ _
  have H := Lib.hid h
  obtain ⟨cc, hc⟩ : ∃ c, c = chk19 l := ⟨_, rfl⟩
  have CK := Lib.hid (fun w h => Check19_any v l cc hc w h)
  have hx0 : r ≠ 0 → E = [] ∧ s1 = 0 ∧ s2 = 0 := fun h0 => ⟨by rw [hx, aiL, if_neg (by rw [← hr]; exact h0)], by rw [hs1, aiS, if_neg (by rw [← hr]; exact h0)], by rw [hs2, aiG, if_neg (by rw [← hr]; exact h0)]⟩
  by_cases h0 : cc = 0
  case neg =>
    have hrc : r = cc := by rw [hr, aiE, if_neg (by rw [← hc]; exact h0), hc]
    obtain ⟨rfl, rfl, rfl⟩ := hx0 (by rw [hrc]; exact h0)
    subst hrc
    have n1 : (r != 0) = true := by rw [bne_iff_ne]; exact h0
    clear hx hs1 hs2 hr h hc h0 hx0
    go_enter Try.func24, Try.ntmps24
    go_upto_region 1 with (fail)
    refine wp_gen (fun Wv => Bx Wv (w.heap.size) (61) (#[.int .i64 0, .int .i64 0]) ∧ Below w.heap.size w Wv) ⟨((Bx.at_ (by simp))), ((Below.refl _ w).alloc (by simp <;> omega) _)⟩ ?_
    rintro wa1 ⟨g1, b⟩
    replace B := B.trans (b.mono B.size); clear b
    have c_g1 := g1.cell; have f_g1 := g1.free; have a_g1 := fun o => (g1.alloc o).cell; have d_g1 := fun o o2 => ((g1.alloc o).alloc o2).cell; have e_g1 := fun o => (g1.alloc o).free
    go_wp2_with fail
    refine (CK.out _ (H.out.below B)).mono ?_
    rintro e wa2 ⟨rfl, b⟩
    try clear c_g1 f_g1 a_g1 d_g1 e_g1
    replace g1 := g1.below b; have c_g1 := g1.cell; have f_g1 := g1.free; have a_g1 := fun o => (g1.alloc o).cell; have d_g1 := fun o o2 => ((g1.alloc o).alloc o2).cell; have e_g1 := fun o => (g1.alloc o).free; replace B := B.trans (b.mono B.size); clear b
    go_wp2
    refine bodyPost_ret (v := .tuple #[.slice none 0 0, .agg #[.int .i64 0, .int .i64 0], .int .i64 r]) (by simp [results, Try.results24, go_sem, c_g1, f_g1]) rfl ?_
    refine ⟨_, rfl, OwnE.nil _ _, ?_⟩
    (repeat (first | refine Below.setCell ?_ (by first | exact Nat.le_refl _ | (simp <;> omega)) _ | refine Below.alloc ?_ (by first | exact B.size | (have := B.size; simp <;> omega)) _)); exact B
  case pos =>
    subst h0
    have rt : Rt l := Rt.of hc.symm
    obtain ⟨T, hT⟩ : ∃ T, T = T19 l := ⟨_, rfl⟩
    obtain ⟨sw, hsw⟩ : ∃ x, x = sW l := ⟨_, rfl⟩
    obtain ⟨st, hst⟩ : ∃ x, x = sT l := ⟨_, rfl⟩
    obtain ⟨i0, hi0⟩ : ∃ x, x = is0 l := ⟨_, rfl⟩
    obtain ⟨i1, hi1⟩ : ∃ x, x = is1 l := ⟨_, rfl⟩
    have T3 := Lib.hid (fun w h => TRead_any v l sw st i0 i1 0 hsw hst hi0 hi1 rt.tw.symm w h)
    have KT := Lib.hid (fun w h => KTable_any v l st T 0 (by rw [hT, hst]; rfl) (by rw [hst]; exact rt.ty.symm) w h)
    obtain ⟨NT, hNT⟩ : ∃ N, N = T.length := ⟨_, rfl⟩
    have HNT := Lib.hid hNT
    have hNT8 : NT ≤ 8 := by rw [hNT, hT]; exact (T19_ok rt.ty).1
    by_cases ht : 0 ≤ ti ∧ ti < NT
    case neg =>
      have hrc : r = 2 := by rw [hr, aiE, if_pos hc.symm, if_neg (by rw [← hT, ← hNT]; exact ht)]
      obtain ⟨rfl, rfl, rfl⟩ := hx0 (by rw [hrc]; decide)
      subst hrc
      clear hx hs1 hs2 hr h hc hx0 rt hT hsw hst hi0 hi1 hNT
      have hcase : decide (ti < 0) = true ∨ (decide (ti < 0) = false ∧ decide ((NT : Int) ≤ ti) = true) := by
        by_cases h1 : ti < 0
        · exact .inl (decide_eq_true h1)
        · exact .inr ⟨decide_eq_false h1, decide_eq_true (by omega)⟩
      clear ht
      rcases hcase with t1 | ⟨t1, t2⟩
      · skip
        go_enter Try.func24, Try.ntmps24
        go_upto_region 1 with (fail)
        refine wp_gen (fun Wv => Bx Wv (w.heap.size) (61) (#[.int .i64 0, .int .i64 0]) ∧ Below w.heap.size w Wv) ⟨((Bx.at_ (by simp))), ((Below.refl _ w).alloc (by simp <;> omega) _)⟩ ?_
        rintro wa1 ⟨g1, b⟩
        replace B := B.trans (b.mono B.size); clear b
        have c_g1 := g1.cell; have f_g1 := g1.free; have a_g1 := fun o => (g1.alloc o).cell; have d_g1 := fun o o2 => ((g1.alloc o).alloc o2).cell; have e_g1 := fun o => (g1.alloc o).free
        go_wp2_with fail
        refine (CK.out _ (H.out.below B)).mono ?_
        rintro e wa2 ⟨rfl, b⟩
        try clear c_g1 f_g1 a_g1 d_g1 e_g1
        replace g1 := g1.below b; have c_g1 := g1.cell; have f_g1 := g1.free; have a_g1 := fun o => (g1.alloc o).cell; have d_g1 := fun o o2 => ((g1.alloc o).alloc o2).cell; have e_g1 := fun o => (g1.alloc o).free; replace B := B.trans (b.mono B.size); clear b
        go_wp2_with fail
        refine (T3.out _ (H.out.below B)).mono ?_
        rintro e wa3 ⟨rfl, b⟩
        try clear c_g1 f_g1 a_g1 d_g1 e_g1
        replace g1 := g1.below b; have c_g1 := g1.cell; have f_g1 := g1.free; have a_g1 := fun o => (g1.alloc o).cell; have d_g1 := fun o o2 => ((g1.alloc o).alloc o2).cell; have e_g1 := fun o => (g1.alloc o).free; replace B := B.trans (b.mono B.size); clear b
        go_upto_region 5 with (fail)
        refine wp_gen (fun Wv => Bx Wv (wa3.heap.size) (80) (#[.int .i64 sw, .int .i64 st]) ∧ Below wa3.heap.size wa3 Wv) ⟨(((Bx.at_ (by simp)).alloc _)), (((Below.refl _ wa3).alloc (by simp <;> omega) _).alloc (by simp <;> omega) _)⟩ ?_
        rintro wa4 ⟨g2, b⟩
        try clear c_g1 f_g1 a_g1 d_g1 e_g1
        replace g1 := g1.below b; have c_g1 := g1.cell; have f_g1 := g1.free; have a_g1 := fun o => (g1.alloc o).cell; have d_g1 := fun o o2 => ((g1.alloc o).alloc o2).cell; have e_g1 := fun o => (g1.alloc o).free; replace B := B.trans (b.mono B.size); clear b
        have c_g2 := g2.cell; have f_g2 := g2.free; have a_g2 := fun o => (g2.alloc o).cell; have d_g2 := fun o o2 => ((g2.alloc o).alloc o2).cell; have e_g2 := fun o => (g2.alloc o).free
        go_wp2_with fail
        refine (KT.out _ (H.out.below B)).mono ?_
        rintro e wa5 ⟨xt, rfl, ot, b⟩
        try clear c_g1 f_g1 a_g1 d_g1 e_g1
        replace g1 := g1.below b; have c_g1 := g1.cell; have f_g1 := g1.free; have a_g1 := fun o => (g1.alloc o).cell; have d_g1 := fun o o2 => ((g1.alloc o).alloc o2).cell; have e_g1 := fun o => (g1.alloc o).free; try clear c_g2 f_g2 a_g2 d_g2 e_g2
        replace g2 := g2.below b; have c_g2 := g2.cell; have f_g2 := g2.free; have a_g2 := fun o => (g2.alloc o).cell; have d_g2 := fun o o2 => ((g2.alloc o).alloc o2).cell; have e_g2 := fun o => (g2.alloc o).free; replace B := B.trans (b.mono B.size); clear b
        have rt9 := ot.rd
        have lt := rt9.len
        rw [← HNT.out] at lt
        clear ot
        clear c_g2 f_g2 a_g2 d_g2 e_g2
        clear g2
        go_wp2
        refine bodyPost_ret (v := .tuple #[.slice none 0 0, .agg #[.int .i64 0, .int .i64 0], .int .i64 2]) (by simp [results, Try.results24, go_sem, c_g1, f_g1]) rfl ?_
        refine ⟨_, rfl, OwnE.nil _ _, ?_⟩
        (repeat (first | refine Below.setCell ?_ (by first | exact Nat.le_refl _ | (simp <;> omega)) _ | refine Below.alloc ?_ (by first | exact B.size | (have := B.size; simp <;> omega)) _)); exact B
      · skip
        go_enter Try.func24, Try.ntmps24
        go_upto_region 1 with (fail)
        refine wp_gen (fun Wv => Bx Wv (w.heap.size) (61) (#[.int .i64 0, .int .i64 0]) ∧ Below w.heap.size w Wv) ⟨((Bx.at_ (by simp))), ((Below.refl _ w).alloc (by simp <;> omega) _)⟩ ?_
        rintro wa1 ⟨g1, b⟩
        replace B := B.trans (b.mono B.size); clear b
        have c_g1 := g1.cell; have f_g1 := g1.free; have a_g1 := fun o => (g1.alloc o).cell; have d_g1 := fun o o2 => ((g1.alloc o).alloc o2).cell; have e_g1 := fun o => (g1.alloc o).free
        go_wp2_with fail
        refine (CK.out _ (H.out.below B)).mono ?_
        rintro e wa2 ⟨rfl, b⟩
        try clear c_g1 f_g1 a_g1 d_g1 e_g1
        replace g1 := g1.below b; have c_g1 := g1.cell; have f_g1 := g1.free; have a_g1 := fun o => (g1.alloc o).cell; have d_g1 := fun o o2 => ((g1.alloc o).alloc o2).cell; have e_g1 := fun o => (g1.alloc o).free; replace B := B.trans (b.mono B.size); clear b
        go_wp2_with fail
        refine (T3.out _ (H.out.below B)).mono ?_
        rintro e wa3 ⟨rfl, b⟩
        try clear c_g1 f_g1 a_g1 d_g1 e_g1
        replace g1 := g1.below b; have c_g1 := g1.cell; have f_g1 := g1.free; have a_g1 := fun o => (g1.alloc o).cell; have d_g1 := fun o o2 => ((g1.alloc o).alloc o2).cell; have e_g1 := fun o => (g1.alloc o).free; replace B := B.trans (b.mono B.size); clear b
        go_upto_region 5 with (fail)
        refine wp_gen (fun Wv => Bx Wv (wa3.heap.size) (80) (#[.int .i64 sw, .int .i64 st]) ∧ Below wa3.heap.size wa3 Wv) ⟨(((Bx.at_ (by simp)).alloc _)), (((Below.refl _ wa3).alloc (by simp <;> omega) _).alloc (by simp <;> omega) _)⟩ ?_
        rintro wa4 ⟨g2, b⟩
        try clear c_g1 f_g1 a_g1 d_g1 e_g1
        replace g1 := g1.below b; have c_g1 := g1.cell; have f_g1 := g1.free; have a_g1 := fun o => (g1.alloc o).cell; have d_g1 := fun o o2 => ((g1.alloc o).alloc o2).cell; have e_g1 := fun o => (g1.alloc o).free; replace B := B.trans (b.mono B.size); clear b
        have c_g2 := g2.cell; have f_g2 := g2.free; have a_g2 := fun o => (g2.alloc o).cell; have d_g2 := fun o o2 => ((g2.alloc o).alloc o2).cell; have e_g2 := fun o => (g2.alloc o).free
        go_wp2_with fail
        refine (KT.out _ (H.out.below B)).mono ?_
        rintro e wa5 ⟨xt, rfl, ot, b⟩
        try clear c_g1 f_g1 a_g1 d_g1 e_g1
        replace g1 := g1.below b; have c_g1 := g1.cell; have f_g1 := g1.free; have a_g1 := fun o => (g1.alloc o).cell; have d_g1 := fun o o2 => ((g1.alloc o).alloc o2).cell; have e_g1 := fun o => (g1.alloc o).free; try clear c_g2 f_g2 a_g2 d_g2 e_g2
        replace g2 := g2.below b; have c_g2 := g2.cell; have f_g2 := g2.free; have a_g2 := fun o => (g2.alloc o).cell; have d_g2 := fun o o2 => ((g2.alloc o).alloc o2).cell; have e_g2 := fun o => (g2.alloc o).free; replace B := B.trans (b.mono B.size); clear b
        have rt9 := ot.rd
        have lt := rt9.len
        rw [← HNT.out] at lt
        clear ot
        clear c_g2 f_g2 a_g2 d_g2 e_g2
        clear g2
        go_wp2
        refine bodyPost_ret (v := .tuple #[.slice none 0 0, .agg #[.int .i64 0, .int .i64 0], .int .i64 2]) (by simp [results, Try.results24, go_sem, c_g1, f_g1]) rfl ?_
        refine ⟨_, rfl, OwnE.nil _ _, ?_⟩
        (repeat (first | refine Below.setCell ?_ (by first | exact Nat.le_refl _ | (simp <;> omega)) _ | refine Below.alloc ?_ (by first | exact B.size | (have := B.size; simp <;> omega)) _)); exact B
    case pos =>
      obtain ⟨q, rfl⟩ := Int.eq_ofNat_of_zero_le ht.1
      have hqN : q < NT := by omega
      obtain ⟨ty, hty⟩ : ∃ t, T[q]? = some t := ⟨_, List.getElem?_eq_getElem (by omega)⟩
      have HTQ := Lib.hid hty
      have hkT := (T19_ok rt.ty).2 ty (by rw [← hT]; exact List.mem_of_getElem? hty)
      have ht8 := (kErr_ok hkT).1
      have htyI : tyI l (q : Int) = ty := by unfold tyI; rw [Int.toNat_natCast, ← hT, List.getD_eq_getElem?_getD, hty]; rfl
      obtain ⟨n, hn⟩ : ∃ n, n = sizT ty := ⟨_, rfl⟩
      have hn2 : 2 ≤ n ∧ n ≤ 10 ∧ n % 2 = 0 := by rw [hn]; unfold sizT; omega
      have hks : (n : Int) = kSize ty := by rw [hn, kSize, if_pos hkT]; unfold sizT; omega
      have KS := Lib.hid (fun v w h => KSize_any v ty (n : Int) 0 hks hkT.symm w h)
      have t1 : decide ((q : Int) < 0) = false := decide_eq_false (by omega)
      have t2 : decide ((NT : Int) ≤ (q : Int)) = false := decide_eq_false (by omega)
      have hE : aiE l q = (if next (slots l) = none then 23 else if (takes (freeL l) n).isSome then 0 else 20) := by
        rw [aiE, if_pos hc.symm, if_pos (by rw [← hT, ← hNT]; exact ht), htyI, ← hn]
      obtain ⟨e9, he9⟩ : ∃ e, e = L18.newErr l 128 := ⟨_, rfl⟩
      obtain ⟨s9, hs9⟩ : ∃ e, e = newSlot l 128 := ⟨_, rfl⟩
      obtain ⟨g9, hg9⟩ : ∃ e, e = newGen l 128 := ⟨_, rfl⟩
      obtain ⟨a9, ha9⟩ : ∃ e, e = newAt l 128 := ⟨_, rfl⟩
      obtain ⟨v9, hv9⟩ : ∃ e, e = newVal l 128 := ⟨_, rfl⟩
      have N1 := Lib.hid (fun w h => New18_any v l 128 s9 g9 a9 v9 e9 hs9 hg9 ha9 hv9 he9 w h)
      have hnE : e9 = if next (slots l) = none then 23 else 0 := by rw [he9]; unfold L18.newErr; rw [if_pos rt.sl, if_pos (by decide)]
      by_cases hnx : next (slots l) = none
      case pos =>
        rw [if_pos hnx] at hE hnE
        have hrc : r = 23 := by rw [hr, hE]
        obtain ⟨rfl, rfl, rfl⟩ := hx0 (by rw [hrc]; decide)
        subst hrc; subst hnE
        clear hx hs1 hs2 hr h hc hx0 rt hT hsw hst hi0 hi1 hNT hty hkT htyI hn hks hE he9 hs9 hg9 ha9 hv9 hnx ht
        go_enter Try.func24, Try.ntmps24
        go_upto_region 1 with (fail)
        refine wp_gen (fun Wv => Bx Wv (w.heap.size) (61) (#[.int .i64 0, .int .i64 0]) ∧ Below w.heap.size w Wv) ⟨((Bx.at_ (by simp))), ((Below.refl _ w).alloc (by simp <;> omega) _)⟩ ?_
        rintro wa1 ⟨g1, b⟩
        replace B := B.trans (b.mono B.size); clear b
        have c_g1 := g1.cell; have f_g1 := g1.free; have a_g1 := fun o => (g1.alloc o).cell; have d_g1 := fun o o2 => ((g1.alloc o).alloc o2).cell; have e_g1 := fun o => (g1.alloc o).free
        go_wp2_with fail
        refine (CK.out _ (H.out.below B)).mono ?_
        rintro e wa2 ⟨rfl, b⟩
        try clear c_g1 f_g1 a_g1 d_g1 e_g1
        replace g1 := g1.below b; have c_g1 := g1.cell; have f_g1 := g1.free; have a_g1 := fun o => (g1.alloc o).cell; have d_g1 := fun o o2 => ((g1.alloc o).alloc o2).cell; have e_g1 := fun o => (g1.alloc o).free; replace B := B.trans (b.mono B.size); clear b
        go_wp2_with fail
        refine (T3.out _ (H.out.below B)).mono ?_
        rintro e wa3 ⟨rfl, b⟩
        try clear c_g1 f_g1 a_g1 d_g1 e_g1
        replace g1 := g1.below b; have c_g1 := g1.cell; have f_g1 := g1.free; have a_g1 := fun o => (g1.alloc o).cell; have d_g1 := fun o o2 => ((g1.alloc o).alloc o2).cell; have e_g1 := fun o => (g1.alloc o).free; replace B := B.trans (b.mono B.size); clear b
        go_upto_region 5 with (fail)
        refine wp_gen (fun Wv => Bx Wv (wa3.heap.size) (80) (#[.int .i64 sw, .int .i64 st]) ∧ Below wa3.heap.size wa3 Wv) ⟨(((Bx.at_ (by simp)).alloc _)), (((Below.refl _ wa3).alloc (by simp <;> omega) _).alloc (by simp <;> omega) _)⟩ ?_
        rintro wa4 ⟨g2, b⟩
        try clear c_g1 f_g1 a_g1 d_g1 e_g1
        replace g1 := g1.below b; have c_g1 := g1.cell; have f_g1 := g1.free; have a_g1 := fun o => (g1.alloc o).cell; have d_g1 := fun o o2 => ((g1.alloc o).alloc o2).cell; have e_g1 := fun o => (g1.alloc o).free; replace B := B.trans (b.mono B.size); clear b
        have c_g2 := g2.cell; have f_g2 := g2.free; have a_g2 := fun o => (g2.alloc o).cell; have d_g2 := fun o o2 => ((g2.alloc o).alloc o2).cell; have e_g2 := fun o => (g2.alloc o).free
        go_wp2_with fail
        refine (KT.out _ (H.out.below B)).mono ?_
        rintro e wa5 ⟨xt, rfl, ot, b⟩
        try clear c_g1 f_g1 a_g1 d_g1 e_g1
        replace g1 := g1.below b; have c_g1 := g1.cell; have f_g1 := g1.free; have a_g1 := fun o => (g1.alloc o).cell; have d_g1 := fun o o2 => ((g1.alloc o).alloc o2).cell; have e_g1 := fun o => (g1.alloc o).free; try clear c_g2 f_g2 a_g2 d_g2 e_g2
        replace g2 := g2.below b; have c_g2 := g2.cell; have f_g2 := g2.free; have a_g2 := fun o => (g2.alloc o).cell; have d_g2 := fun o o2 => ((g2.alloc o).alloc o2).cell; have e_g2 := fun o => (g2.alloc o).free; replace B := B.trans (b.mono B.size); clear b
        have rt9 := ot.rd
        have lt := rt9.len
        rw [← HNT.out] at lt
        clear ot
        clear c_g2 f_g2 a_g2 d_g2 e_g2
        clear g2
        obtain ⟨ad, xb, tb, it, m0, ht, hby⟩ := rt9.at_ (k := q) (by rw [← HNT.out]; exact hqN)
        obtain rfl : tb = ty := by have := ht.out; rw [HTQ.out] at this; injection this with e; exact e.symm
        have hby2 := hby.out
        clear rt9 ht hby
        go_upto_region 8 with (fail)
        go_wp2_with fail
        refine (KS.out _ _ hby2).mono ?_
        rintro e w9 ⟨rfl, rfl⟩
        clear m0 it hby2 lt
        go_wp2_with fail
        refine (N1.out _ (H.out.below B)).mono ?_
        rintro e wa6 ⟨rfl, b⟩
        try clear c_g1 f_g1 a_g1 d_g1 e_g1
        replace g1 := g1.below b; have c_g1 := g1.cell; have f_g1 := g1.free; have a_g1 := fun o => (g1.alloc o).cell; have d_g1 := fun o o2 => ((g1.alloc o).alloc o2).cell; have e_g1 := fun o => (g1.alloc o).free; replace B := B.trans (b.mono B.size); clear b
        go_upto_region 12 with (fail)
        refine wp_gen (fun Wv => Below wa6.heap.size wa6 Wv) (((Below.refl _ wa6).alloc (by simp <;> omega) _).alloc (by simp <;> omega) _) ?_
        intro wa7 b
        try clear c_g1 f_g1 a_g1 d_g1 e_g1
        replace g1 := g1.below b; have c_g1 := g1.cell; have f_g1 := g1.free; have a_g1 := fun o => (g1.alloc o).cell; have d_g1 := fun o o2 => ((g1.alloc o).alloc o2).cell; have e_g1 := fun o => (g1.alloc o).free; replace B := B.trans (b.mono B.size); clear b
        go_wp2
        refine bodyPost_ret (v := .tuple #[.slice none 0 0, .agg #[.int .i64 0, .int .i64 0], .int .i64 23]) (by simp [results, Try.results24, go_sem, c_g1, f_g1]) rfl ?_
        refine ⟨_, rfl, OwnE.nil _ _, ?_⟩
        (repeat (first | refine Below.setCell ?_ (by first | exact Nat.le_refl _ | (simp <;> omega)) _ | refine Below.alloc ?_ (by first | exact B.size | (have := B.size; simp <;> omega)) _)); exact B
      case neg =>
        rw [if_neg hnx] at hE hnE
        subst hnE
        obtain ⟨fe, hfe⟩ : ∃ e, e = fitE l n := ⟨_, rfl⟩
        obtain ⟨fb, hfb⟩ : ∃ b, b = fitB l n := ⟨_, rfl⟩
        have FF := Lib.hid (fun w h => FitFind_any v l (n : Int) fb fe hfb hfe w h)
        have hRn : RightN (n : Int) := ⟨by omega, by omega, by omega⟩
        have hfE : fe = if (takes (freeL l) n).isSome then 0 else 20 := by rw [hfe, fitE, if_pos rt.al, if_pos hRn]
        by_cases htk : (takes (freeL l) n).isSome
        case neg =>
          rw [if_neg htk] at hE hfE
          have hrc : r = 20 := by rw [hr, hE]
          obtain ⟨rfl, rfl, rfl⟩ := hx0 (by rw [hrc]; decide)
          subst hrc; subst hfE
          obtain ⟨bat, bsz, bk1, bty, bmk, bnx⟩ := fb
          dsimp only at FF
          clear hx hs1 hs2 hr h hc hx0 rt hT hsw hst hi0 hi1 hNT hty hkT htyI hn hks hE he9 hs9 hg9 ha9 hv9 hnx ht hfe hfb hRn htk
          go_enter Try.func24, Try.ntmps24
          go_upto_region 1 with (fail)
          refine wp_gen (fun Wv => Bx Wv (w.heap.size) (61) (#[.int .i64 0, .int .i64 0]) ∧ Below w.heap.size w Wv) ⟨((Bx.at_ (by simp))), ((Below.refl _ w).alloc (by simp <;> omega) _)⟩ ?_
          rintro wa1 ⟨g1, b⟩
          replace B := B.trans (b.mono B.size); clear b
          have c_g1 := g1.cell; have f_g1 := g1.free; have a_g1 := fun o => (g1.alloc o).cell; have d_g1 := fun o o2 => ((g1.alloc o).alloc o2).cell; have e_g1 := fun o => (g1.alloc o).free
          go_wp2_with fail
          refine (CK.out _ (H.out.below B)).mono ?_
          rintro e wa2 ⟨rfl, b⟩
          try clear c_g1 f_g1 a_g1 d_g1 e_g1
          replace g1 := g1.below b; have c_g1 := g1.cell; have f_g1 := g1.free; have a_g1 := fun o => (g1.alloc o).cell; have d_g1 := fun o o2 => ((g1.alloc o).alloc o2).cell; have e_g1 := fun o => (g1.alloc o).free; replace B := B.trans (b.mono B.size); clear b
          go_wp2_with fail
          refine (T3.out _ (H.out.below B)).mono ?_
          rintro e wa3 ⟨rfl, b⟩
          try clear c_g1 f_g1 a_g1 d_g1 e_g1
          replace g1 := g1.below b; have c_g1 := g1.cell; have f_g1 := g1.free; have a_g1 := fun o => (g1.alloc o).cell; have d_g1 := fun o o2 => ((g1.alloc o).alloc o2).cell; have e_g1 := fun o => (g1.alloc o).free; replace B := B.trans (b.mono B.size); clear b
          go_upto_region 5 with (fail)
          refine wp_gen (fun Wv => Bx Wv (wa3.heap.size) (80) (#[.int .i64 sw, .int .i64 st]) ∧ Below wa3.heap.size wa3 Wv) ⟨(((Bx.at_ (by simp)).alloc _)), (((Below.refl _ wa3).alloc (by simp <;> omega) _).alloc (by simp <;> omega) _)⟩ ?_
          rintro wa4 ⟨g2, b⟩
          try clear c_g1 f_g1 a_g1 d_g1 e_g1
          replace g1 := g1.below b; have c_g1 := g1.cell; have f_g1 := g1.free; have a_g1 := fun o => (g1.alloc o).cell; have d_g1 := fun o o2 => ((g1.alloc o).alloc o2).cell; have e_g1 := fun o => (g1.alloc o).free; replace B := B.trans (b.mono B.size); clear b
          have c_g2 := g2.cell; have f_g2 := g2.free; have a_g2 := fun o => (g2.alloc o).cell; have d_g2 := fun o o2 => ((g2.alloc o).alloc o2).cell; have e_g2 := fun o => (g2.alloc o).free
          go_wp2_with fail
          refine (KT.out _ (H.out.below B)).mono ?_
          rintro e wa5 ⟨xt, rfl, ot, b⟩
          try clear c_g1 f_g1 a_g1 d_g1 e_g1
          replace g1 := g1.below b; have c_g1 := g1.cell; have f_g1 := g1.free; have a_g1 := fun o => (g1.alloc o).cell; have d_g1 := fun o o2 => ((g1.alloc o).alloc o2).cell; have e_g1 := fun o => (g1.alloc o).free; try clear c_g2 f_g2 a_g2 d_g2 e_g2
          replace g2 := g2.below b; have c_g2 := g2.cell; have f_g2 := g2.free; have a_g2 := fun o => (g2.alloc o).cell; have d_g2 := fun o o2 => ((g2.alloc o).alloc o2).cell; have e_g2 := fun o => (g2.alloc o).free; replace B := B.trans (b.mono B.size); clear b
          have rt9 := ot.rd
          have lt := rt9.len
          rw [← HNT.out] at lt
          clear ot
          clear c_g2 f_g2 a_g2 d_g2 e_g2
          clear g2
          obtain ⟨ad, xb, tb, it, m0, ht, hby⟩ := rt9.at_ (k := q) (by rw [← HNT.out]; exact hqN)
          obtain rfl : tb = ty := by have := ht.out; rw [HTQ.out] at this; injection this with e; exact e.symm
          have hby2 := hby.out
          clear rt9 ht hby
          go_upto_region 8 with (fail)
          go_wp2_with fail
          refine (KS.out _ _ hby2).mono ?_
          rintro e w9 ⟨rfl, rfl⟩
          clear m0 it hby2 lt
          go_wp2_with fail
          refine (N1.out _ (H.out.below B)).mono ?_
          rintro e wa6 ⟨rfl, b⟩
          try clear c_g1 f_g1 a_g1 d_g1 e_g1
          replace g1 := g1.below b; have c_g1 := g1.cell; have f_g1 := g1.free; have a_g1 := fun o => (g1.alloc o).cell; have d_g1 := fun o o2 => ((g1.alloc o).alloc o2).cell; have e_g1 := fun o => (g1.alloc o).free; replace B := B.trans (b.mono B.size); clear b
          go_upto_region 12 with (fail)
          refine wp_gen (fun Wv => Below wa6.heap.size wa6 Wv) (((Below.refl _ wa6).alloc (by simp <;> omega) _).alloc (by simp <;> omega) _) ?_
          intro wa7 b
          try clear c_g1 f_g1 a_g1 d_g1 e_g1
          replace g1 := g1.below b; have c_g1 := g1.cell; have f_g1 := g1.free; have a_g1 := fun o => (g1.alloc o).cell; have d_g1 := fun o o2 => ((g1.alloc o).alloc o2).cell; have e_g1 := fun o => (g1.alloc o).free; replace B := B.trans (b.mono B.size); clear b
          go_wp2_with fail
          refine (FF.out _ (H.out.below B)).mono ?_
          rintro e wa8 ⟨rfl, b⟩
          try clear c_g1 f_g1 a_g1 d_g1 e_g1
          replace g1 := g1.below b; have c_g1 := g1.cell; have f_g1 := g1.free; have a_g1 := fun o => (g1.alloc o).cell; have d_g1 := fun o o2 => ((g1.alloc o).alloc o2).cell; have e_g1 := fun o => (g1.alloc o).free; replace B := B.trans (b.mono B.size); clear b
          go_upto_region 15 with (fail)
          refine wp_gen (fun Wv => Below wa8.heap.size wa8 Wv) ((Below.refl _ wa8).alloc (by simp <;> omega) _) ?_
          intro wa9 b
          try clear c_g1 f_g1 a_g1 d_g1 e_g1
          replace g1 := g1.below b; have c_g1 := g1.cell; have f_g1 := g1.free; have a_g1 := fun o => (g1.alloc o).cell; have d_g1 := fun o o2 => ((g1.alloc o).alloc o2).cell; have e_g1 := fun o => (g1.alloc o).free; replace B := B.trans (b.mono B.size); clear b
          go_wp2
          refine bodyPost_ret (v := .tuple #[.slice none 0 0, .agg #[.int .i64 0, .int .i64 0], .int .i64 20]) (by simp [results, Try.results24, go_sem, c_g1, f_g1]) rfl ?_
          refine ⟨_, rfl, OwnE.nil _ _, ?_⟩
          (repeat (first | refine Below.setCell ?_ (by first | exact Nat.le_refl _ | (simp <;> omega)) _ | refine Below.alloc ?_ (by first | exact B.size | (have := B.size; simp <;> omega)) _)); exact B
        case pos =>
          rw [if_pos htk] at hE hfE
          subst hfE
          have hr0 : r = 0 := by rw [hr, hE]
          subst hr0
          obtain ⟨q', k, p, n', c, g0, b, t', PP, SS, e1, al⟩ := Al.of (l := l) (ti := (q : Int)) hE
          obtain rfl : q' = q := by omega
          obtain rfl : t' = ty := by have := al.hT; rw [← hT, hty] at this; injection this with e; exact e.symm
          obtain rfl : n' = n := by rw [al.hn, hn]
          have hfb2 : fb = b := by rw [hfb, fitB, if_pos hfe.symm, al.htk]; rfl
          subst hfb2
          obtain ⟨pv, hpv⟩ : ∃ p9, p9 = pk ⟨g0 + 1, true, (p : Int)⟩ := ⟨_, rfl⟩
          obtain ⟨ow, how⟩ : ∃ x, x = L14.word (objH p n' q') := ⟨_, rfl⟩
          have hc2 := al.hc; have hp2 := al.hp; have hsz := rt.sz.2.1; have hg := al.hg; have hk16 := al.hk
          have nsp := new_spec (l := l) (a := (p : Int)) (by unfold L18.newErr; rw [if_pos rt.sl, if_pos (by omega), if_neg hnx])
          obtain ⟨k2, s', u1, u2, u3, u4, u5, u6, u7, u8, u9, u10, u11⟩ := nsp
          have N2 := Lib.hid (fun w h => New18_any v l (p : Int) (k : Int) (g0 + 1) (112 + (k : Int)) pv 0 (by rw [newSlot, if_pos (by unfold L18.newErr; rw [if_pos rt.sl, if_pos (by omega), if_neg hnx]), al.hnx]; rfl) (by rw [newGen, if_pos (by unfold L18.newErr; rw [if_pos rt.sl, if_pos (by omega), if_neg hnx]), al.hnx, Option.getD_some, List.getD_eq_getElem?_getD, al.hs]; rfl) (by rw [newAt, if_pos (by unfold L18.newErr; rw [if_pos rt.sl, if_pos (by omega), if_neg hnx]), al.hnx]; rfl) (by rw [newVal, if_pos (by unfold L18.newErr; rw [if_pos rt.sl, if_pos (by omega), if_neg hnx]), newGen, if_pos (by unfold L18.newErr; rw [if_pos rt.sl, if_pos (by omega), if_neg hnx]), al.hnx, Option.getD_some, List.getD_eq_getElem?_getD, al.hs, hpv]; rfl) (by unfold L18.newErr; rw [if_pos rt.sl, if_pos (by omega), if_neg hnx]) w h)
          have hokO : BkOk (objH p n' q') := by
            refine ⟨⟨?_, ?_⟩, .inl ⟨rfl, ⟨?_, ?_⟩, ?_⟩⟩
            · show (2 : Int) ≤ (n' : Int); omega
            · show (n' : Int) % 2 = 0; omega
            · show (0 : Int) ≤ (q' : Int); omega
            · show (q' : Int) < 8; omega
            · show (n' : Int) ≤ 10; omega
          have BK := Lib.hid (fun w => block22_any p (n' - 1) (objH p n' q') ow rfl how hokO (by omega) (by omega) w)
          have LF := Lib.hid (fun w => Left_any p n' c fb al.hat al.hsz al.hbk al.hok hRn (by omega) (by omega) w)
          have hEE := al.hAL
          rw [← hx, ← hpv] at hEE
          have hnw : newW p n' q' c = (ow :: List.replicate (n' - 1) 0) ++ if c = n' then [] else [L14.word (restH p n' c)] := by rw [how]; rfl
          rw [hnw, runE_app] at hEE
          have hlen1 : ((ow :: List.replicate (n' - 1) (0 : UInt64)).length : Int) = (n' : Int) := by rw [List.length_cons, List.length_replicate]; omega
          rw [hlen1] at hEE
          have hs1' : s1 = (k : Int) := by rw [hs1, al.hS]
          have hs2' : s2 = g0 + 1 := by rw [hs2, al.hG]
          subst hs1'; subst hs2'
          have b1 := al.hat; have b2 := al.hsz
          obtain ⟨bat, bsz, bk1, bty, bmk, bnx⟩ := fb
          dsimp only at FF LF b1 b2 BK
          subst b1; subst b2
          have wn : IntKind.i64.wrap ((n' : Int) - 1) = ((n' - 1 : Nat) : Int) := by rw [show ((n' - 1 : Nat) : Int) = (n' : Int) - 1 by omega]; exact IntWalk.i64_in _ (by omega)
          have J1 := Lib.hid (fun lv v1 v2 w hl h1 h2 => join22_any lv v1 v2 [(112 + (k : Int), pv)] (runE (p : Int) (ow :: List.replicate (n' - 1) 0)) (by simp) (by rw [runE_len, List.length_cons, List.length_replicate]; omega) w hl h1 h2)
          by_cases hcn : c = n'
          case pos =>
            rw [if_pos hcn] at hEE
            have hEF : E = [(112 + (k : Int), pv)] ++ runE (p : Int) (ow :: List.replicate (n' - 1) 0) := by rw [hEE]; simp [runE]
            have HEF := Lib.hid hEF
            have HCN := Lib.hid hcn
            clear hcn
            clear hx hs1 hs2 hr h hc hx0 rt hT hsw hst hi0 hi1 hNT hty hkT htyI hn hks hE he9 hs9 hg9 ha9 hv9 hnx ht hfe hfb hRn htk al hpv how hc2 hp2 hsz hg hk16 hokO hEE hnw hlen1 hEF u1 u2 u3 u4 u5 u6 u7 u8 u9 u10 u11
            go_enter Try.func24, Try.ntmps24
            go_upto_region 1 with (fail)
            refine wp_gen (fun Wv => Bx Wv (w.heap.size) (61) (#[.int .i64 0, .int .i64 0]) ∧ Below w.heap.size w Wv) ⟨((Bx.at_ (by simp))), ((Below.refl _ w).alloc (by simp <;> omega) _)⟩ ?_
            rintro wa1 ⟨g1, b⟩
            replace B := B.trans (b.mono B.size); clear b
            have c_g1 := g1.cell; have f_g1 := g1.free; have a_g1 := fun o => (g1.alloc o).cell; have d_g1 := fun o o2 => ((g1.alloc o).alloc o2).cell; have e_g1 := fun o => (g1.alloc o).free
            go_wp2_with fail
            refine (CK.out _ (H.out.below B)).mono ?_
            rintro e wa2 ⟨rfl, b⟩
            try clear c_g1 f_g1 a_g1 d_g1 e_g1
            replace g1 := g1.below b; have c_g1 := g1.cell; have f_g1 := g1.free; have a_g1 := fun o => (g1.alloc o).cell; have d_g1 := fun o o2 => ((g1.alloc o).alloc o2).cell; have e_g1 := fun o => (g1.alloc o).free; replace B := B.trans (b.mono B.size); clear b
            go_wp2_with fail
            refine (T3.out _ (H.out.below B)).mono ?_
            rintro e wa3 ⟨rfl, b⟩
            try clear c_g1 f_g1 a_g1 d_g1 e_g1
            replace g1 := g1.below b; have c_g1 := g1.cell; have f_g1 := g1.free; have a_g1 := fun o => (g1.alloc o).cell; have d_g1 := fun o o2 => ((g1.alloc o).alloc o2).cell; have e_g1 := fun o => (g1.alloc o).free; replace B := B.trans (b.mono B.size); clear b
            go_upto_region 5 with (fail)
            refine wp_gen (fun Wv => Bx Wv (wa3.heap.size) (80) (#[.int .i64 sw, .int .i64 st]) ∧ Below wa3.heap.size wa3 Wv) ⟨(((Bx.at_ (by simp)).alloc _)), (((Below.refl _ wa3).alloc (by simp <;> omega) _).alloc (by simp <;> omega) _)⟩ ?_
            rintro wa4 ⟨g2, b⟩
            try clear c_g1 f_g1 a_g1 d_g1 e_g1
            replace g1 := g1.below b; have c_g1 := g1.cell; have f_g1 := g1.free; have a_g1 := fun o => (g1.alloc o).cell; have d_g1 := fun o o2 => ((g1.alloc o).alloc o2).cell; have e_g1 := fun o => (g1.alloc o).free; replace B := B.trans (b.mono B.size); clear b
            have c_g2 := g2.cell; have f_g2 := g2.free; have a_g2 := fun o => (g2.alloc o).cell; have d_g2 := fun o o2 => ((g2.alloc o).alloc o2).cell; have e_g2 := fun o => (g2.alloc o).free
            go_wp2_with fail
            refine (KT.out _ (H.out.below B)).mono ?_
            rintro e wa5 ⟨xt, rfl, ot, b⟩
            try clear c_g1 f_g1 a_g1 d_g1 e_g1
            replace g1 := g1.below b; have c_g1 := g1.cell; have f_g1 := g1.free; have a_g1 := fun o => (g1.alloc o).cell; have d_g1 := fun o o2 => ((g1.alloc o).alloc o2).cell; have e_g1 := fun o => (g1.alloc o).free; try clear c_g2 f_g2 a_g2 d_g2 e_g2
            replace g2 := g2.below b; have c_g2 := g2.cell; have f_g2 := g2.free; have a_g2 := fun o => (g2.alloc o).cell; have d_g2 := fun o o2 => ((g2.alloc o).alloc o2).cell; have e_g2 := fun o => (g2.alloc o).free; replace B := B.trans (b.mono B.size); clear b
            have rt9 := ot.rd
            have lt := rt9.len
            rw [← HNT.out] at lt
            clear ot
            clear c_g2 f_g2 a_g2 d_g2 e_g2
            clear g2
            obtain ⟨ad, xb, tb, it, m0, ht, hby⟩ := rt9.at_ (k := q') (by rw [← HNT.out]; exact hqN)
            obtain rfl : tb = t' := by have := ht.out; rw [HTQ.out] at this; injection this with e; exact e.symm
            have hby2 := hby.out
            clear rt9 ht hby
            go_upto_region 8 with (fail)
            go_wp2_with fail
            refine (KS.out _ _ hby2).mono ?_
            rintro e w9 ⟨rfl, rfl⟩
            clear m0 it hby2 lt
            go_wp2_with fail
            refine (N1.out _ (H.out.below B)).mono ?_
            rintro e wa6 ⟨rfl, b⟩
            try clear c_g1 f_g1 a_g1 d_g1 e_g1
            replace g1 := g1.below b; have c_g1 := g1.cell; have f_g1 := g1.free; have a_g1 := fun o => (g1.alloc o).cell; have d_g1 := fun o o2 => ((g1.alloc o).alloc o2).cell; have e_g1 := fun o => (g1.alloc o).free; replace B := B.trans (b.mono B.size); clear b
            go_upto_region 12 with (fail)
            refine wp_gen (fun Wv => Below wa6.heap.size wa6 Wv) (((Below.refl _ wa6).alloc (by simp <;> omega) _).alloc (by simp <;> omega) _) ?_
            intro wa7 b
            try clear c_g1 f_g1 a_g1 d_g1 e_g1
            replace g1 := g1.below b; have c_g1 := g1.cell; have f_g1 := g1.free; have a_g1 := fun o => (g1.alloc o).cell; have d_g1 := fun o o2 => ((g1.alloc o).alloc o2).cell; have e_g1 := fun o => (g1.alloc o).free; replace B := B.trans (b.mono B.size); clear b
            go_wp2_with fail
            refine (FF.out _ (H.out.below B)).mono ?_
            rintro e wa8 ⟨rfl, b⟩
            try clear c_g1 f_g1 a_g1 d_g1 e_g1
            replace g1 := g1.below b; have c_g1 := g1.cell; have f_g1 := g1.free; have a_g1 := fun o => (g1.alloc o).cell; have d_g1 := fun o o2 => ((g1.alloc o).alloc o2).cell; have e_g1 := fun o => (g1.alloc o).free; replace B := B.trans (b.mono B.size); clear b
            go_upto_region 15 with (fail)
            refine wp_gen (fun Wv => Bx Wv (wa8.heap.size) (84) (#[.int .i64 p, .int .i64 c, .int .i64 bk1, .int .i64 bty, .bool bmk, .int .u64 bnx.toNat]) ∧ Below wa8.heap.size wa8 Wv) ⟨((Bx.at_ (by simp))), ((Below.refl _ wa8).alloc (by simp <;> omega) _)⟩ ?_
            rintro wa9 ⟨g4, b⟩
            try clear c_g1 f_g1 a_g1 d_g1 e_g1
            replace g1 := g1.below b; have c_g1 := g1.cell; have f_g1 := g1.free; have a_g1 := fun o => (g1.alloc o).cell; have d_g1 := fun o o2 => ((g1.alloc o).alloc o2).cell; have e_g1 := fun o => (g1.alloc o).free; replace B := B.trans (b.mono B.size); clear b
            have c_g4 := g4.cell; have f_g4 := g4.free; have a_g4 := fun o => (g4.alloc o).cell; have d_g4 := fun o o2 => ((g4.alloc o).alloc o2).cell; have e_g4 := fun o => (g4.alloc o).free
            go_wp2_with fail
            refine (N2.out _ (H.out.below B)).mono ?_
            rintro e wa10 ⟨rfl, b⟩
            try clear c_g1 f_g1 a_g1 d_g1 e_g1
            replace g1 := g1.below b; have c_g1 := g1.cell; have f_g1 := g1.free; have a_g1 := fun o => (g1.alloc o).cell; have d_g1 := fun o o2 => ((g1.alloc o).alloc o2).cell; have e_g1 := fun o => (g1.alloc o).free; try clear c_g4 f_g4 a_g4 d_g4 e_g4
            replace g4 := g4.below b; have c_g4 := g4.cell; have f_g4 := g4.free; have a_g4 := fun o => (g4.alloc o).cell; have d_g4 := fun o o2 => ((g4.alloc o).alloc o2).cell; have e_g4 := fun o => (g4.alloc o).free; replace B := B.trans (b.mono B.size); clear b
            go_upto_region 18 with (fail)
            refine wp_gen (fun Wv => Bx Wv (wa10.heap.size) (61) (#[.int .i64 k, .int .i64 (g0 + 1)]) ∧ Bx Wv (wa10.heap.size + 1) (66) (#[.int .i64 (112 + (k : Int)), .int .u64 pv.toNat]) ∧ Below wa10.heap.size wa10 Wv) ⟨(((Bx.at_ (by simp)).alloc _)), ((Bx.at_ (by simp))), (((Below.refl _ wa10).alloc (by simp <;> omega) _).alloc (by simp <;> omega) _)⟩ ?_
            rintro wa11 ⟨g5, g6, b⟩
            try clear c_g1 f_g1 a_g1 d_g1 e_g1
            replace g1 := g1.below b; have c_g1 := g1.cell; have f_g1 := g1.free; have a_g1 := fun o => (g1.alloc o).cell; have d_g1 := fun o o2 => ((g1.alloc o).alloc o2).cell; have e_g1 := fun o => (g1.alloc o).free; try clear c_g4 f_g4 a_g4 d_g4 e_g4
            replace g4 := g4.below b; have c_g4 := g4.cell; have f_g4 := g4.free; have a_g4 := fun o => (g4.alloc o).cell; have d_g4 := fun o o2 => ((g4.alloc o).alloc o2).cell; have e_g4 := fun o => (g4.alloc o).free; replace B := B.trans (b.mono B.size); clear b
            have c_g5 := g5.cell; have f_g5 := g5.free; have a_g5 := fun o => (g5.alloc o).cell; have d_g5 := fun o o2 => ((g5.alloc o).alloc o2).cell; have e_g5 := fun o => (g5.alloc o).free
            have c_g6 := g6.cell; have f_g6 := g6.free; have a_g6 := fun o => (g6.alloc o).cell; have d_g6 := fun o o2 => ((g6.alloc o).alloc o2).cell; have e_g6 := fun o => (g6.alloc o).free
            go_wp2_with fail
            refine (BK.out _).mono ?_
            rintro e wa12 ⟨y1, rfl, o1, b⟩
            try clear c_g1 f_g1 a_g1 d_g1 e_g1
            replace g1 := g1.below b; have c_g1 := g1.cell; have f_g1 := g1.free; have a_g1 := fun o => (g1.alloc o).cell; have d_g1 := fun o o2 => ((g1.alloc o).alloc o2).cell; have e_g1 := fun o => (g1.alloc o).free; try clear c_g4 f_g4 a_g4 d_g4 e_g4
            replace g4 := g4.below b; have c_g4 := g4.cell; have f_g4 := g4.free; have a_g4 := fun o => (g4.alloc o).cell; have d_g4 := fun o o2 => ((g4.alloc o).alloc o2).cell; have e_g4 := fun o => (g4.alloc o).free; try clear c_g5 f_g5 a_g5 d_g5 e_g5
            replace g5 := g5.below b; have c_g5 := g5.cell; have f_g5 := g5.free; have a_g5 := fun o => (g5.alloc o).cell; have d_g5 := fun o o2 => ((g5.alloc o).alloc o2).cell; have e_g5 := fun o => (g5.alloc o).free; try clear c_g6 f_g6 a_g6 d_g6 e_g6
            replace g6 := g6.below b; have c_g6 := g6.cell; have f_g6 := g6.free; have a_g6 := fun o => (g6.alloc o).cell; have d_g6 := fun o o2 => ((g6.alloc o).alloc o2).cell; have e_g6 := fun o => (g6.alloc o).free; replace B := B.trans (b.mono B.size); clear b
            have q1 := o1.rd
            clear o1
            obtain ⟨yA, yn, yc, rfl⟩ : ∃ A n c, y1 = .slice A n c := by obtain ⟨A, c, e⟩ := ents_form q1; exact ⟨_, _, _, e⟩
            go_wp2_with fail
            refine (LF.out _).mono ?_
            rintro e wa13 ⟨he, he2, b⟩
            try clear c_g1 f_g1 a_g1 d_g1 e_g1
            replace g1 := g1.below b; have c_g1 := g1.cell; have f_g1 := g1.free; have a_g1 := fun o => (g1.alloc o).cell; have d_g1 := fun o o2 => ((g1.alloc o).alloc o2).cell; have e_g1 := fun o => (g1.alloc o).free; try clear c_g4 f_g4 a_g4 d_g4 e_g4
            replace g4 := g4.below b; have c_g4 := g4.cell; have f_g4 := g4.free; have a_g4 := fun o => (g4.alloc o).cell; have d_g4 := fun o o2 => ((g4.alloc o).alloc o2).cell; have e_g4 := fun o => (g4.alloc o).free; try clear c_g5 f_g5 a_g5 d_g5 e_g5
            replace g5 := g5.below b; have c_g5 := g5.cell; have f_g5 := g5.free; have a_g5 := fun o => (g5.alloc o).cell; have d_g5 := fun o o2 => ((g5.alloc o).alloc o2).cell; have e_g5 := fun o => (g5.alloc o).free; try clear c_g6 f_g6 a_g6 d_g6 e_g6
            replace g6 := g6.below b; have c_g6 := g6.cell; have f_g6 := g6.free; have a_g6 := fun o => (g6.alloc o).cell; have d_g6 := fun o o2 => ((g6.alloc o).alloc o2).cell; have e_g6 := fun o => (g6.alloc o).free; replace q1 := q1.below b; replace B := B.trans (b.mono B.size); clear b
            have he3 := he HCN.out
            unfold zeroB at he3
            subst he3
            clear he he2
            go_upto_region 26 with (fail)
            refine wp_gen (fun Wv => Bx Wv (wa13.heap.size) (84) (#[.int .i64 0, .int .i64 0, .int .i64 0, .int .i64 0, .bool false, .int .u64 0]) ∧ Below wa13.heap.size wa13 Wv) ⟨((Bx.at_ (by simp))), ((Below.refl _ wa13).alloc (by simp <;> omega) _)⟩ ?_
            rintro wa14 ⟨g7, b⟩
            try clear c_g1 f_g1 a_g1 d_g1 e_g1
            replace g1 := g1.below b; have c_g1 := g1.cell; have f_g1 := g1.free; have a_g1 := fun o => (g1.alloc o).cell; have d_g1 := fun o o2 => ((g1.alloc o).alloc o2).cell; have e_g1 := fun o => (g1.alloc o).free; try clear c_g4 f_g4 a_g4 d_g4 e_g4
            replace g4 := g4.below b; have c_g4 := g4.cell; have f_g4 := g4.free; have a_g4 := fun o => (g4.alloc o).cell; have d_g4 := fun o o2 => ((g4.alloc o).alloc o2).cell; have e_g4 := fun o => (g4.alloc o).free; try clear c_g5 f_g5 a_g5 d_g5 e_g5
            replace g5 := g5.below b; have c_g5 := g5.cell; have f_g5 := g5.free; have a_g5 := fun o => (g5.alloc o).cell; have d_g5 := fun o o2 => ((g5.alloc o).alloc o2).cell; have e_g5 := fun o => (g5.alloc o).free; try clear c_g6 f_g6 a_g6 d_g6 e_g6
            replace g6 := g6.below b; have c_g6 := g6.cell; have f_g6 := g6.free; have a_g6 := fun o => (g6.alloc o).cell; have d_g6 := fun o o2 => ((g6.alloc o).alloc o2).cell; have e_g6 := fun o => (g6.alloc o).free; replace q1 := q1.below b; replace B := B.trans (b.mono B.size); clear b
            have c_g7 := g7.cell; have f_g7 := g7.free; have a_g7 := fun o => (g7.alloc o).cell; have d_g7 := fun o o2 => ((g7.alloc o).alloc o2).cell; have e_g7 := fun o => (g7.alloc o).free
            go_wp2_with fail
            have hb0 := B.size
            refine (J1.out _ _ _ _ (lit_two (by simp) _ _) (Rd.alloc (ent_own (a := 112 + (k : Int)) (x := pv) (Nat.le_refl _)).rd _) (Rd.alloc (Rd.alloc q1 _) _)).mono ?_
            rintro e wj ⟨yj, rfl, oj, bj⟩
            have hal : Below wa14.heap.size wa14 ((wa14.alloc (.cells #[.int .i64 (112 + (k : Int)), .int .u64 pv.toNat] 66)).alloc (.cells #[.slice (some ⟨wa14.heap.size, 0, none⟩) 1 1, .slice yA yn yc] 59)) := ((Below.refl _ _).alloc (Nat.le_refl _) _).alloc (by simp) _
            have hb9 := hal.trans (bj.mono hal.size)
            replace g1 := g1.below hb9
            replace g5 := g5.below hb9
            replace g7 := g7.below hb9
            replace B := B.trans (hb9.mono hb0)
            replace oj : OwnE wj w.heap.size yj _ := own_mono oj (Nat.le_trans hb0 hal.size)
            clear hal hb9 bj q1 hb0 g4 c_g4 f_g4 a_g4 d_g4 e_g4 g6 c_g6 f_g6 a_g6 d_g6 e_g6 c_g1 f_g1 a_g1 d_g1 e_g1 c_g5 f_g5 a_g5 d_g5 e_g5 c_g7 f_g7 a_g7 d_g7 e_g7
            have c_g1 := g1.cell; have f_g1 := g1.free; have c_g5 := g5.cell; have c_g7 := g7.cell
            go_upto_region 32 with (fail)
            refine wp_region_qtail 3 (by kernel_rfl) (by kernel_rfl) ?_
            simp only [List.take_succ_cons, List.take_zero, List.drop_succ_cons, List.drop_zero]
            iterate 3 (go_big_quiet_step (fail))
            refine wpQuiet_nil ?_
            have HGQ := Lib.hid (And.intro oj (And.intro g1 B))
            clear oj g1 B g5 g7
            go_wp2
            refine bodyPost_ret (v := .tuple #[yj, .agg #[.int .i64 k, .int .i64 (g0 + 1)], .int .i64 0]) (by simp [results, Try.results24, go_sem, c_g1, f_g1]) rfl ?_
            obtain ⟨oj, g1, B⟩ := HGQ.out
            refine ⟨_, rfl, by rw [HEF.out]; exact own_set (own_set oj g1 (by decide)) (g1.set _) (by decide), ?_⟩
            exact (B.drew.setCell (p := ⟨w.heap.size, 0, none⟩) (Nat.le_refl _) _).setCell (p := ⟨w.heap.size, 1, none⟩) (Nat.le_refl _) _
          case neg =>
            rw [if_neg hcn] at hEE
            obtain ⟨rw9, hrw⟩ : ∃ x, x = L14.word (restH p n' c) := ⟨_, rfl⟩
            have hokR : BkOk (restH p n' c) := by
              refine ⟨⟨?_, ?_⟩, .inr ⟨rfl, rfl, rfl, ?_⟩⟩
              · show (2 : Int) ≤ ((c - n' : Nat) : Int); omega
              · show ((c - n' : Nat) : Int) % 2 = 0; omega
              · show ((c - n' : Nat) : Int) ≤ 1920; omega
            have BR : Hid (∀ w, Calls Try.prog 50 #[.agg (bkA (restH p n' c)), .int .i64 0] w fun e w' => ∃ y, e = .returned (.tuple #[y, .int .i64 0]) ∧ OwnE w' w.heap.size y [(((p + n' : Nat) : Int), rw9)] ∧ Below w.heap.size w w') := Lib.hid (fun w => block22_any (p + n') 0 (restH p n' c) rw9 rfl hrw hokR (by omega) (by omega) w)
            rw [← hrw] at hEE
            have hEF : E = ([(112 + (k : Int), pv)] ++ runE (p : Int) (ow :: List.replicate (n' - 1) 0)) ++ [(((p + n' : Nat) : Int), rw9)] := by
              rw [hEE, show ((p + n' : Nat) : Int) = (p : Int) + (n' : Int) by omega]; rfl
            have HEF := Lib.hid hEF
            have J2 := Lib.hid (fun lv v1 v2 w hl h1 h2 => join22_any lv v1 v2 ([(112 + (k : Int), pv)] ++ runE (p : Int) (ow :: List.replicate (n' - 1) 0)) [(((p + n' : Nat) : Int), rw9)] (by rw [List.length_append, runE_len]; simp; omega) (by simp) w hl h1 h2)
            clear hx hs1 hs2 hr h hc hx0 rt hT hsw hst hi0 hi1 hNT hty hkT htyI hn hks hE he9 hs9 hg9 ha9 hv9 hnx ht hfe hfb hRn htk al hpv how hc2 hp2 hsz hg hk16 hokO hEE hnw hlen1 hEF u1 u2 u3 u4 u5 u6 u7 u8 u9 u10 u11
            go_enter Try.func24, Try.ntmps24
            go_upto_region 1 with (fail)
            refine wp_gen (fun Wv => Bx Wv (w.heap.size) (61) (#[.int .i64 0, .int .i64 0]) ∧ Below w.heap.size w Wv) ⟨((Bx.at_ (by simp))), ((Below.refl _ w).alloc (by simp <;> omega) _)⟩ ?_
            rintro wa1 ⟨g1, b⟩
            replace B := B.trans (b.mono B.size); clear b
            have c_g1 := g1.cell; have f_g1 := g1.free; have a_g1 := fun o => (g1.alloc o).cell; have d_g1 := fun o o2 => ((g1.alloc o).alloc o2).cell; have e_g1 := fun o => (g1.alloc o).free
            go_wp2_with fail
            refine (CK.out _ (H.out.below B)).mono ?_
            rintro e wa2 ⟨rfl, b⟩
            try clear c_g1 f_g1 a_g1 d_g1 e_g1
            replace g1 := g1.below b; have c_g1 := g1.cell; have f_g1 := g1.free; have a_g1 := fun o => (g1.alloc o).cell; have d_g1 := fun o o2 => ((g1.alloc o).alloc o2).cell; have e_g1 := fun o => (g1.alloc o).free; replace B := B.trans (b.mono B.size); clear b
            go_wp2_with fail
            refine (T3.out _ (H.out.below B)).mono ?_
            rintro e wa3 ⟨rfl, b⟩
            try clear c_g1 f_g1 a_g1 d_g1 e_g1
            replace g1 := g1.below b; have c_g1 := g1.cell; have f_g1 := g1.free; have a_g1 := fun o => (g1.alloc o).cell; have d_g1 := fun o o2 => ((g1.alloc o).alloc o2).cell; have e_g1 := fun o => (g1.alloc o).free; replace B := B.trans (b.mono B.size); clear b
            go_upto_region 5 with (fail)
            refine wp_gen (fun Wv => Bx Wv (wa3.heap.size) (80) (#[.int .i64 sw, .int .i64 st]) ∧ Below wa3.heap.size wa3 Wv) ⟨(((Bx.at_ (by simp)).alloc _)), (((Below.refl _ wa3).alloc (by simp <;> omega) _).alloc (by simp <;> omega) _)⟩ ?_
            rintro wa4 ⟨g2, b⟩
            try clear c_g1 f_g1 a_g1 d_g1 e_g1
            replace g1 := g1.below b; have c_g1 := g1.cell; have f_g1 := g1.free; have a_g1 := fun o => (g1.alloc o).cell; have d_g1 := fun o o2 => ((g1.alloc o).alloc o2).cell; have e_g1 := fun o => (g1.alloc o).free; replace B := B.trans (b.mono B.size); clear b
            have c_g2 := g2.cell; have f_g2 := g2.free; have a_g2 := fun o => (g2.alloc o).cell; have d_g2 := fun o o2 => ((g2.alloc o).alloc o2).cell; have e_g2 := fun o => (g2.alloc o).free
            go_wp2_with fail
            refine (KT.out _ (H.out.below B)).mono ?_
            rintro e wa5 ⟨xt, rfl, ot, b⟩
            try clear c_g1 f_g1 a_g1 d_g1 e_g1
            replace g1 := g1.below b; have c_g1 := g1.cell; have f_g1 := g1.free; have a_g1 := fun o => (g1.alloc o).cell; have d_g1 := fun o o2 => ((g1.alloc o).alloc o2).cell; have e_g1 := fun o => (g1.alloc o).free; try clear c_g2 f_g2 a_g2 d_g2 e_g2
            replace g2 := g2.below b; have c_g2 := g2.cell; have f_g2 := g2.free; have a_g2 := fun o => (g2.alloc o).cell; have d_g2 := fun o o2 => ((g2.alloc o).alloc o2).cell; have e_g2 := fun o => (g2.alloc o).free; replace B := B.trans (b.mono B.size); clear b
            have rt9 := ot.rd
            have lt := rt9.len
            rw [← HNT.out] at lt
            clear ot
            clear c_g2 f_g2 a_g2 d_g2 e_g2
            clear g2
            obtain ⟨ad, xb, tb, it, m0, ht, hby⟩ := rt9.at_ (k := q') (by rw [← HNT.out]; exact hqN)
            obtain rfl : tb = t' := by have := ht.out; rw [HTQ.out] at this; injection this with e; exact e.symm
            have hby2 := hby.out
            clear rt9 ht hby
            go_upto_region 8 with (fail)
            go_wp2_with fail
            refine (KS.out _ _ hby2).mono ?_
            rintro e w9 ⟨rfl, rfl⟩
            clear m0 it hby2 lt
            go_wp2_with fail
            refine (N1.out _ (H.out.below B)).mono ?_
            rintro e wa6 ⟨rfl, b⟩
            try clear c_g1 f_g1 a_g1 d_g1 e_g1
            replace g1 := g1.below b; have c_g1 := g1.cell; have f_g1 := g1.free; have a_g1 := fun o => (g1.alloc o).cell; have d_g1 := fun o o2 => ((g1.alloc o).alloc o2).cell; have e_g1 := fun o => (g1.alloc o).free; replace B := B.trans (b.mono B.size); clear b
            go_upto_region 12 with (fail)
            refine wp_gen (fun Wv => Below wa6.heap.size wa6 Wv) (((Below.refl _ wa6).alloc (by simp <;> omega) _).alloc (by simp <;> omega) _) ?_
            intro wa7 b
            try clear c_g1 f_g1 a_g1 d_g1 e_g1
            replace g1 := g1.below b; have c_g1 := g1.cell; have f_g1 := g1.free; have a_g1 := fun o => (g1.alloc o).cell; have d_g1 := fun o o2 => ((g1.alloc o).alloc o2).cell; have e_g1 := fun o => (g1.alloc o).free; replace B := B.trans (b.mono B.size); clear b
            go_wp2_with fail
            refine (FF.out _ (H.out.below B)).mono ?_
            rintro e wa8 ⟨rfl, b⟩
            try clear c_g1 f_g1 a_g1 d_g1 e_g1
            replace g1 := g1.below b; have c_g1 := g1.cell; have f_g1 := g1.free; have a_g1 := fun o => (g1.alloc o).cell; have d_g1 := fun o o2 => ((g1.alloc o).alloc o2).cell; have e_g1 := fun o => (g1.alloc o).free; replace B := B.trans (b.mono B.size); clear b
            go_upto_region 15 with (fail)
            refine wp_gen (fun Wv => Bx Wv (wa8.heap.size) (84) (#[.int .i64 p, .int .i64 c, .int .i64 bk1, .int .i64 bty, .bool bmk, .int .u64 bnx.toNat]) ∧ Below wa8.heap.size wa8 Wv) ⟨((Bx.at_ (by simp))), ((Below.refl _ wa8).alloc (by simp <;> omega) _)⟩ ?_
            rintro wa9 ⟨g4, b⟩
            try clear c_g1 f_g1 a_g1 d_g1 e_g1
            replace g1 := g1.below b; have c_g1 := g1.cell; have f_g1 := g1.free; have a_g1 := fun o => (g1.alloc o).cell; have d_g1 := fun o o2 => ((g1.alloc o).alloc o2).cell; have e_g1 := fun o => (g1.alloc o).free; replace B := B.trans (b.mono B.size); clear b
            have c_g4 := g4.cell; have f_g4 := g4.free; have a_g4 := fun o => (g4.alloc o).cell; have d_g4 := fun o o2 => ((g4.alloc o).alloc o2).cell; have e_g4 := fun o => (g4.alloc o).free
            go_wp2_with fail
            refine (N2.out _ (H.out.below B)).mono ?_
            rintro e wa10 ⟨rfl, b⟩
            try clear c_g1 f_g1 a_g1 d_g1 e_g1
            replace g1 := g1.below b; have c_g1 := g1.cell; have f_g1 := g1.free; have a_g1 := fun o => (g1.alloc o).cell; have d_g1 := fun o o2 => ((g1.alloc o).alloc o2).cell; have e_g1 := fun o => (g1.alloc o).free; try clear c_g4 f_g4 a_g4 d_g4 e_g4
            replace g4 := g4.below b; have c_g4 := g4.cell; have f_g4 := g4.free; have a_g4 := fun o => (g4.alloc o).cell; have d_g4 := fun o o2 => ((g4.alloc o).alloc o2).cell; have e_g4 := fun o => (g4.alloc o).free; replace B := B.trans (b.mono B.size); clear b
            go_upto_region 18 with (fail)
            refine wp_gen (fun Wv => Bx Wv (wa10.heap.size) (61) (#[.int .i64 k, .int .i64 (g0 + 1)]) ∧ Bx Wv (wa10.heap.size + 1) (66) (#[.int .i64 (112 + (k : Int)), .int .u64 pv.toNat]) ∧ Below wa10.heap.size wa10 Wv) ⟨(((Bx.at_ (by simp)).alloc _)), ((Bx.at_ (by simp))), (((Below.refl _ wa10).alloc (by simp <;> omega) _).alloc (by simp <;> omega) _)⟩ ?_
            rintro wa11 ⟨g5, g6, b⟩
            try clear c_g1 f_g1 a_g1 d_g1 e_g1
            replace g1 := g1.below b; have c_g1 := g1.cell; have f_g1 := g1.free; have a_g1 := fun o => (g1.alloc o).cell; have d_g1 := fun o o2 => ((g1.alloc o).alloc o2).cell; have e_g1 := fun o => (g1.alloc o).free; try clear c_g4 f_g4 a_g4 d_g4 e_g4
            replace g4 := g4.below b; have c_g4 := g4.cell; have f_g4 := g4.free; have a_g4 := fun o => (g4.alloc o).cell; have d_g4 := fun o o2 => ((g4.alloc o).alloc o2).cell; have e_g4 := fun o => (g4.alloc o).free; replace B := B.trans (b.mono B.size); clear b
            have c_g5 := g5.cell; have f_g5 := g5.free; have a_g5 := fun o => (g5.alloc o).cell; have d_g5 := fun o o2 => ((g5.alloc o).alloc o2).cell; have e_g5 := fun o => (g5.alloc o).free
            have c_g6 := g6.cell; have f_g6 := g6.free; have a_g6 := fun o => (g6.alloc o).cell; have d_g6 := fun o o2 => ((g6.alloc o).alloc o2).cell; have e_g6 := fun o => (g6.alloc o).free
            go_wp2_with fail
            refine (BK.out _).mono ?_
            rintro e wa12 ⟨y1, rfl, o1, b⟩
            try clear c_g1 f_g1 a_g1 d_g1 e_g1
            replace g1 := g1.below b; have c_g1 := g1.cell; have f_g1 := g1.free; have a_g1 := fun o => (g1.alloc o).cell; have d_g1 := fun o o2 => ((g1.alloc o).alloc o2).cell; have e_g1 := fun o => (g1.alloc o).free; try clear c_g4 f_g4 a_g4 d_g4 e_g4
            replace g4 := g4.below b; have c_g4 := g4.cell; have f_g4 := g4.free; have a_g4 := fun o => (g4.alloc o).cell; have d_g4 := fun o o2 => ((g4.alloc o).alloc o2).cell; have e_g4 := fun o => (g4.alloc o).free; try clear c_g5 f_g5 a_g5 d_g5 e_g5
            replace g5 := g5.below b; have c_g5 := g5.cell; have f_g5 := g5.free; have a_g5 := fun o => (g5.alloc o).cell; have d_g5 := fun o o2 => ((g5.alloc o).alloc o2).cell; have e_g5 := fun o => (g5.alloc o).free; try clear c_g6 f_g6 a_g6 d_g6 e_g6
            replace g6 := g6.below b; have c_g6 := g6.cell; have f_g6 := g6.free; have a_g6 := fun o => (g6.alloc o).cell; have d_g6 := fun o o2 => ((g6.alloc o).alloc o2).cell; have e_g6 := fun o => (g6.alloc o).free; replace B := B.trans (b.mono B.size); clear b
            have q1 := o1.rd
            clear o1
            obtain ⟨yA, yn, yc, rfl⟩ : ∃ A n c, y1 = .slice A n c := by obtain ⟨A, c, e⟩ := ents_form q1; exact ⟨_, _, _, e⟩
            go_wp2_with fail
            refine (LF.out _).mono ?_
            rintro e wa13 ⟨he, he2, b⟩
            try clear c_g1 f_g1 a_g1 d_g1 e_g1
            replace g1 := g1.below b; have c_g1 := g1.cell; have f_g1 := g1.free; have a_g1 := fun o => (g1.alloc o).cell; have d_g1 := fun o o2 => ((g1.alloc o).alloc o2).cell; have e_g1 := fun o => (g1.alloc o).free; try clear c_g4 f_g4 a_g4 d_g4 e_g4
            replace g4 := g4.below b; have c_g4 := g4.cell; have f_g4 := g4.free; have a_g4 := fun o => (g4.alloc o).cell; have d_g4 := fun o o2 => ((g4.alloc o).alloc o2).cell; have e_g4 := fun o => (g4.alloc o).free; try clear c_g5 f_g5 a_g5 d_g5 e_g5
            replace g5 := g5.below b; have c_g5 := g5.cell; have f_g5 := g5.free; have a_g5 := fun o => (g5.alloc o).cell; have d_g5 := fun o o2 => ((g5.alloc o).alloc o2).cell; have e_g5 := fun o => (g5.alloc o).free; try clear c_g6 f_g6 a_g6 d_g6 e_g6
            replace g6 := g6.below b; have c_g6 := g6.cell; have f_g6 := g6.free; have a_g6 := fun o => (g6.alloc o).cell; have d_g6 := fun o o2 => ((g6.alloc o).alloc o2).cell; have e_g6 := fun o => (g6.alloc o).free; replace q1 := q1.below b; replace B := B.trans (b.mono B.size); clear b
            have he3 := he2 hcn
            unfold bkA at he3
            subst he3
            clear he he2
            go_upto_region 26 with (fail)
            refine wp_gen (fun Wv => Bx Wv (wa13.heap.size) (84) (#[.int .i64 (restH p n' c).at_, .int .i64 (restH p n' c).size, .int .i64 (restH p n' c).kind, .int .i64 (restH p n' c).ty, .bool (restH p n' c).mark, .int .u64 (restH p n' c).next.toNat]) ∧ Below wa13.heap.size wa13 Wv) ⟨((Bx.at_ (by simp))), ((Below.refl _ wa13).alloc (by simp <;> omega) _)⟩ ?_
            rintro wa14 ⟨g7, b⟩
            try clear c_g1 f_g1 a_g1 d_g1 e_g1
            replace g1 := g1.below b; have c_g1 := g1.cell; have f_g1 := g1.free; have a_g1 := fun o => (g1.alloc o).cell; have d_g1 := fun o o2 => ((g1.alloc o).alloc o2).cell; have e_g1 := fun o => (g1.alloc o).free; try clear c_g4 f_g4 a_g4 d_g4 e_g4
            replace g4 := g4.below b; have c_g4 := g4.cell; have f_g4 := g4.free; have a_g4 := fun o => (g4.alloc o).cell; have d_g4 := fun o o2 => ((g4.alloc o).alloc o2).cell; have e_g4 := fun o => (g4.alloc o).free; try clear c_g5 f_g5 a_g5 d_g5 e_g5
            replace g5 := g5.below b; have c_g5 := g5.cell; have f_g5 := g5.free; have a_g5 := fun o => (g5.alloc o).cell; have d_g5 := fun o o2 => ((g5.alloc o).alloc o2).cell; have e_g5 := fun o => (g5.alloc o).free; try clear c_g6 f_g6 a_g6 d_g6 e_g6
            replace g6 := g6.below b; have c_g6 := g6.cell; have f_g6 := g6.free; have a_g6 := fun o => (g6.alloc o).cell; have d_g6 := fun o o2 => ((g6.alloc o).alloc o2).cell; have e_g6 := fun o => (g6.alloc o).free; replace q1 := q1.below b; replace B := B.trans (b.mono B.size); clear b
            have c_g7 := g7.cell; have f_g7 := g7.free; have a_g7 := fun o => (g7.alloc o).cell; have d_g7 := fun o o2 => ((g7.alloc o).alloc o2).cell; have e_g7 := fun o => (g7.alloc o).free
            go_wp2_with fail
            have hb0 := B.size
            refine (J1.out _ _ _ _ (lit_two (by simp) _ _) (Rd.alloc (ent_own (a := 112 + (k : Int)) (x := pv) (Nat.le_refl _)).rd _) (Rd.alloc (Rd.alloc q1 _) _)).mono ?_
            rintro e wj ⟨yj, rfl, oj, bj⟩
            have hal : Below wa14.heap.size wa14 ((wa14.alloc (.cells #[.int .i64 (112 + (k : Int)), .int .u64 pv.toNat] 66)).alloc (.cells #[.slice (some ⟨wa14.heap.size, 0, none⟩) 1 1, .slice yA yn yc] 59)) := ((Below.refl _ _).alloc (Nat.le_refl _) _).alloc (by simp) _
            have hb9 := hal.trans (bj.mono hal.size)
            replace g1 := g1.below hb9
            replace g5 := g5.below hb9
            replace g7 := g7.below hb9
            replace B := B.trans (hb9.mono hb0)
            replace oj : OwnE wj w.heap.size yj _ := own_mono oj (Nat.le_trans hb0 hal.size)
            clear hal hb9 bj q1 hb0 g4 c_g4 f_g4 a_g4 d_g4 e_g4 g6 c_g6 f_g6 a_g6 d_g6 e_g6 c_g1 f_g1 a_g1 d_g1 e_g1 c_g5 f_g5 a_g5 d_g5 e_g5 c_g7 f_g7 a_g7 d_g7 e_g7
            have c_g1 := g1.cell; have f_g1 := g1.free; have c_g5 := g5.cell; have c_g7 := g7.cell
            obtain ⟨zA, zn, zc, rfl⟩ : ∃ A n c, yj = .slice A n c := by obtain ⟨A, c, e⟩ := ents_form oj.rd; exact ⟨_, _, _, e⟩
            have c_g7' := g7.cell
            clear c_g7
            go_wp2_with fail
            refine (BR.out _).mono ?_
            rintro e wk ⟨yk, rfl, ok, bk⟩
            have qj := (OwnE.below oj bk).rd
            have qk := ok.rd
            replace g1 := g1.below bk
            replace g5 := g5.below bk
            replace B := B.trans (bk.mono B.size)
            clear oj ok bk c_g1 f_g1 c_g5 c_g7' g7
            have c_g1 := g1.cell; have f_g1 := g1.free; have c_g5 := g5.cell
            obtain ⟨kA, kn, kc, rfl⟩ : ∃ A n c, yk = .slice A n c := by obtain ⟨A, c, e⟩ := ents_form qk; exact ⟨_, _, _, e⟩
            go_wp2_with fail
            have hb0 := B.size
            refine (J2.out _ _ _ _ (lit_two rfl _ _) (Rd.alloc qj _) (Rd.alloc qk _)).mono ?_
            rintro e wm ⟨ym, rfl, om, bm⟩
            have hal : Below wk.heap.size wk (wk.alloc (.cells #[.slice zA zn zc, .slice kA kn kc] 59)) := (Below.refl _ _).alloc (Nat.le_refl _) _
            have hb9 := hal.trans (bm.mono hal.size)
            replace g1 := g1.below hb9
            replace g5 := g5.below hb9
            replace B := B.trans (hb9.mono hb0)
            replace om : OwnE wm w.heap.size ym _ := own_mono om (Nat.le_trans hb0 hal.size)
            have oj := om
            clear om hal hb9 bm qj qk hb0 c_g1 f_g1 c_g5
            have c_g1 := g1.cell; have f_g1 := g1.free; have c_g5 := g5.cell
            go_upto_region 32 with (fail)
            refine wp_region_qtail 3 (by kernel_rfl) (by kernel_rfl) ?_
            simp only [List.take_succ_cons, List.take_zero, List.drop_succ_cons, List.drop_zero]
            iterate 3 (go_big_quiet_step (fail))
            refine wpQuiet_nil ?_
            have HGQ := Lib.hid (And.intro oj (And.intro g1 B))
            clear oj g1 B g5
            go_wp2
            refine bodyPost_ret (v := .tuple #[ym, .agg #[.int .i64 k, .int .i64 (g0 + 1)], .int .i64 0]) (by simp [results, Try.results24, go_sem, c_g1, f_g1]) rfl ?_
            obtain ⟨oj, g1, B⟩ := HGQ.out
            refine ⟨_, rfl, by rw [HEF.out]; exact own_set (own_set oj g1 (by decide)) (g1.set _) (by decide), ?_⟩
            exact (B.drew.setCell (p := ⟨w.heap.size, 0, none⟩) (Nat.le_refl _) _).setCell (p := ⟨w.heap.size, 1, none⟩) (Nat.le_refl _) _
end Go.Proofs.Ytodbbacmdjcheaa
