/- Contracts of the functions that the laws 'R' reach, part 27. No condition. -/
import Derived.Test.YtmbokdnndlnjkaaGreatMRz
set_option linter.unusedVariables false
set_option linter.unusedSimpArgs false
namespace Go.Proofs.YtmbokdnndlnjkaaGreat
open Go.RowKit L01 L02 L05 L06 L07 L13 L14 L15 L16 L18 L19
theorem enter_word14 (a b c d : Value) (W : World) : (callFunc 81 (#[] ++ #[a, b, c, d] ++ #[])).run Tryz.prog W = .ok (.enter 81 #[a, b, c, d]) W := by
  kernel_rfl
theorem bx_ent1 {w : World} {base p : Nat} {a : Int} {x : UInt64} (h : Bx w p 120 #[.int .i64 a, .int .u64 x.toNat]) (hb : base ≤ p) : OwnE w base (.slice (some ⟨p, 0, none⟩) 1 1) [(a, x)] :=
  ⟨rfl, .inr ⟨p, 1, #[.int .i64 a, .int .u64 x.toNat], rfl, hb, h, Nat.le_refl _, by decide, rfl, rfl⟩⟩
set_option maxRecDepth 100000 in
set_option maxHeartbeats 8000000 in
theorem ChangeR22_any (v : Value) (l : List UInt64) (ti : Int) (E : List (Int × UInt64)) (s1 s2 r : Int) (hx : E = aiL l ti) (hs1 : s1 = aiS l ti) (hs2 : s2 = aiG l ti) (hr : r = aiE l ti) (w : World) (h : Words w v l) :
    Calls Tryz.prog 23 #[v, .int .i64 ti] w fun e w' => ∃ y, e = .returned (.tuple #[y, .agg #[.int .i64 s1, .int .i64 s2], .int .i64 r]) ∧ OwnE w' w.heap.size y E ∧ Below w.heap.size w w' := by
  have B : Below w.heap.size w w := Below.refl _ _
  have H := Lib.hid h
  obtain ⟨cc, hc⟩ : ∃ c, c = chk19 l := ⟨_, rfl⟩
  have CK := Lib.hid (fun w h => Check19R_any v l cc hc w h)
  have hx0 : r ≠ 0 → E = [] ∧ s1 = 0 ∧ s2 = 0 := fun h0 => ⟨by rw [hx, aiL, if_neg (by rw [← hr]; exact h0)], by rw [hs1, aiS, if_neg (by rw [← hr]; exact h0)], by rw [hs2, aiG, if_neg (by rw [← hr]; exact h0)]⟩
  by_cases h0 : cc = 0
  case neg =>
    have hrc : r = cc := by rw [hr, aiE, if_neg (by rw [← hc]; exact h0), hc]
    obtain ⟨rfl, rfl, rfl⟩ := hx0 (by rw [hrc]; exact h0)
    subst hrc
    have n1 : (r != 0) = true := by rw [bne_iff_ne]; exact h0
    clear hx hs1 hs2 hr h hc h0 hx0
    go_enter Tryz.func23, Tryz.ntmps23
    go_upto_region 1 with (fail)
    refine wp_gen (fun Wv => Bx Wv (w.heap.size) (39) (#[.int .i64 0, .int .i64 0]) ∧ Below w.heap.size w Wv) ⟨((Bx.at_ (by simp))), ((Below.refl _ w).alloc (by simp <;> omega) _)⟩ ?_
    rintro wa1 ⟨g1, b⟩
    replace B := B.trans (b.mono B.size); clear b
    have c_g1 := g1.cell; have f_g1 := g1.free; have a_g1 := fun o => (g1.alloc o).cell; have d_g1 := fun o o2 => ((g1.alloc o).alloc o2).cell; have e_g1 := fun o => (g1.alloc o).free
    go_wp2_with fail
    refine (CK.out _ (H.out.below B)).mono ?_
    rintro e wa2 ⟨rfl, b⟩
    try clear c_g1 f_g1 a_g1 d_g1 e_g1
    replace g1 := g1.below b; have c_g1 := g1.cell; have f_g1 := g1.free; have a_g1 := fun o => (g1.alloc o).cell; have d_g1 := fun o o2 => ((g1.alloc o).alloc o2).cell; have e_g1 := fun o => (g1.alloc o).free; replace B := B.trans (b.mono B.size); clear b
    go_wp2
    refine bodyPost_ret (v := .tuple #[.slice none 0 0, .agg #[.int .i64 0, .int .i64 0], .int .i64 r]) (by simp [results, Tryz.results23, go_sem, c_g1, f_g1]) rfl ?_
    refine ⟨_, rfl, OwnE.nil _ _, ?_⟩
    (repeat (first | refine Below.setCell ?_ (by first | exact Nat.le_refl _ | (simp <;> omega)) _ | refine Below.alloc ?_ (by first | exact B.size | (have := B.size; simp <;> omega)) _)); exact B
  case pos =>
    subst h0
    have rt : Rt l := Rt.of hc.symm
    obtain ⟨T, hT⟩ : ∃ T, T = T19 l := ⟨_, rfl⟩
    have KT := Lib.hid (fun w h => TypesR19_any v l rt.sz T true (by rw [eq_comm, decide_eq_true_iff]; exact ⟨rt.tw, rt.ty⟩) (by rw [hT]; rfl) w h)
    obtain ⟨NT, hNT⟩ : ∃ N, N = T.length := ⟨_, rfl⟩
    have HNT := Lib.hid hNT
    have hNT8 : NT ≤ 8 := by rw [hNT, hT]; exact (T19_ok rt.ty).1
    by_cases ht : 0 ≤ ti ∧ ti < NT
    case neg =>
      have hrc : r = 2 := by rw [hr, aiE, if_pos hc.symm, if_neg (by rw [← hT, ← hNT]; exact ht)]
      obtain ⟨rfl, rfl, rfl⟩ := hx0 (by rw [hrc]; decide)
      subst hrc
      clear hx hs1 hs2 hr h hc hx0 rt hT hNT
      have hcase : decide (ti < 0) = true ∨ (decide (ti < 0) = false ∧ decide ((NT : Int) ≤ ti) = true) := by
        by_cases h1 : ti < 0
        · exact .inl (decide_eq_true h1)
        · exact .inr ⟨decide_eq_false h1, decide_eq_true (by omega)⟩
      clear ht
      rcases hcase with t1 | ⟨t1, t2⟩
      · skip
        go_enter Tryz.func23, Tryz.ntmps23
        go_upto_region 1 with (fail)
        refine wp_gen (fun Wv => Bx Wv (w.heap.size) (39) (#[.int .i64 0, .int .i64 0]) ∧ Below w.heap.size w Wv) ⟨((Bx.at_ (by simp))), ((Below.refl _ w).alloc (by simp <;> omega) _)⟩ ?_
        rintro wa1 ⟨g1, b⟩
        replace B := B.trans (b.mono B.size); clear b
        have c_g1 := g1.cell; have f_g1 := g1.free; have a_g1 := fun o => (g1.alloc o).cell; have d_g1 := fun o o2 => ((g1.alloc o).alloc o2).cell; have e_g1 := fun o => (g1.alloc o).free
        go_wp2_with fail
        refine (CK.out _ (H.out.below B)).mono ?_
        rintro e wa2 ⟨rfl, b⟩
        try clear c_g1 f_g1 a_g1 d_g1 e_g1
        replace g1 := g1.below b; have c_g1 := g1.cell; have f_g1 := g1.free; have a_g1 := fun o => (g1.alloc o).cell; have d_g1 := fun o o2 => ((g1.alloc o).alloc o2).cell; have e_g1 := fun o => (g1.alloc o).free; replace B := B.trans (b.mono B.size); clear b
        go_wp2_with fail
        refine (KT.out _ (H.out.below B)).mono ?_
        rintro e wa3 ⟨xt, rfl, ot, b⟩
        try clear c_g1 f_g1 a_g1 d_g1 e_g1
        replace g1 := g1.below b; have c_g1 := g1.cell; have f_g1 := g1.free; have a_g1 := fun o => (g1.alloc o).cell; have d_g1 := fun o o2 => ((g1.alloc o).alloc o2).cell; have e_g1 := fun o => (g1.alloc o).free; replace B := B.trans (b.mono B.size); clear b
        have rt9 := ot.rd
        have lt := rt9.len
        rw [← HNT.out] at lt
        clear ot
        go_wp2
        refine bodyPost_ret (v := .tuple #[.slice none 0 0, .agg #[.int .i64 0, .int .i64 0], .int .i64 2]) (by simp [results, Tryz.results23, go_sem, c_g1, f_g1]) rfl ?_
        refine ⟨_, rfl, OwnE.nil _ _, ?_⟩
        (repeat (first | refine Below.setCell ?_ (by first | exact Nat.le_refl _ | (simp <;> omega)) _ | refine Below.alloc ?_ (by first | exact B.size | (have := B.size; simp <;> omega)) _)); exact B
      · skip
        go_enter Tryz.func23, Tryz.ntmps23
        go_upto_region 1 with (fail)
        refine wp_gen (fun Wv => Bx Wv (w.heap.size) (39) (#[.int .i64 0, .int .i64 0]) ∧ Below w.heap.size w Wv) ⟨((Bx.at_ (by simp))), ((Below.refl _ w).alloc (by simp <;> omega) _)⟩ ?_
        rintro wa1 ⟨g1, b⟩
        replace B := B.trans (b.mono B.size); clear b
        have c_g1 := g1.cell; have f_g1 := g1.free; have a_g1 := fun o => (g1.alloc o).cell; have d_g1 := fun o o2 => ((g1.alloc o).alloc o2).cell; have e_g1 := fun o => (g1.alloc o).free
        go_wp2_with fail
        refine (CK.out _ (H.out.below B)).mono ?_
        rintro e wa2 ⟨rfl, b⟩
        try clear c_g1 f_g1 a_g1 d_g1 e_g1
        replace g1 := g1.below b; have c_g1 := g1.cell; have f_g1 := g1.free; have a_g1 := fun o => (g1.alloc o).cell; have d_g1 := fun o o2 => ((g1.alloc o).alloc o2).cell; have e_g1 := fun o => (g1.alloc o).free; replace B := B.trans (b.mono B.size); clear b
        go_wp2_with fail
        refine (KT.out _ (H.out.below B)).mono ?_
        rintro e wa3 ⟨xt, rfl, ot, b⟩
        try clear c_g1 f_g1 a_g1 d_g1 e_g1
        replace g1 := g1.below b; have c_g1 := g1.cell; have f_g1 := g1.free; have a_g1 := fun o => (g1.alloc o).cell; have d_g1 := fun o o2 => ((g1.alloc o).alloc o2).cell; have e_g1 := fun o => (g1.alloc o).free; replace B := B.trans (b.mono B.size); clear b
        have rt9 := ot.rd
        have lt := rt9.len
        rw [← HNT.out] at lt
        clear ot
        go_wp2
        refine bodyPost_ret (v := .tuple #[.slice none 0 0, .agg #[.int .i64 0, .int .i64 0], .int .i64 2]) (by simp [results, Tryz.results23, go_sem, c_g1, f_g1]) rfl ?_
        refine ⟨_, rfl, OwnE.nil _ _, ?_⟩
        (repeat (first | refine Below.setCell ?_ (by first | exact Nat.le_refl _ | (simp <;> omega)) _ | refine Below.alloc ?_ (by first | exact B.size | (have := B.size; simp <;> omega)) _)); exact B
    case pos =>
      obtain ⟨q, rfl⟩ := Int.eq_ofNat_of_zero_le ht.1
      have hqN : q < NT := by omega
      obtain ⟨ty, hty⟩ : ∃ t, T[q]? = some t := ⟨_, List.getElem?_eq_getElem (by omega)⟩
      have HTQ := Lib.hid hty
      have hkT := (T19_ok rt.ty).2 ty (by rw [← hT]; exact List.mem_of_getElem? hty)
      have ht8 := (kErr_ok hkT).1
      have htyI : tyI l (q : Int) = ty := by unfold tyI; rw [Int.toNat_natCast, ← hT, List.getD_eq_getElem?_getD, hty]; rfl
      obtain ⟨n, hn⟩ : ∃ n, n = sizT ty := ⟨_, rfl⟩
      have hn2 : 2 ≤ n ∧ n ≤ 10 ∧ n % 2 = 0 := by rw [hn]; unfold sizT; omega
      obtain ⟨tl, htl⟩ : ∃ x, x = ty.length := ⟨_, rfl⟩
      have WT := Lib.hid (fun w => WordsR_any (ty.length : Int) (n : Int) (by omega) (by rw [hn]; unfold sizT; omega) w)
      have t1 : decide ((q : Int) < 0) = false := decide_eq_false (by omega)
      have t2 : decide ((NT : Int) ≤ (q : Int)) = false := decide_eq_false (by omega)
      have hE : aiE l q = (if next (slots l) = none then 23 else if (takes (freeL l) n).isSome then 0 else 20) := by
        rw [aiE, if_pos hc.symm, if_pos (by rw [← hT, ← hNT]; exact ht), htyI, ← hn]
      obtain ⟨SL, hSL⟩ : ∃ L, L = slots l := ⟨_, rfl⟩
      have ST := Lib.hid (fun w h => SlotsR_any v l rt.sz SL (by rw [hSL, all, if_pos rt.sl]) w h)
      obtain ⟨nx, hnx9⟩ : ∃ x, x = nextI SL := ⟨_, rfl⟩
      have NX := Lib.hid (fun v w h => NextR_any v SL nx hnx9 w h (by rw [hSL]; exact gen_le rt.sl))
      obtain ⟨FR, hFR⟩ : ∃ F, F = freeL l := ⟨_, rfl⟩
      have FT := Lib.hid (fun w h => FreeR16_any v l rt.sz FR true hFR (by rw [decide_eq_true rt.al]) w h)
      have hsF : ∀ c ∈ FR, 2 ≤ c.size ∧ c.size ≤ 1920 := fun c hc' => by
        rw [hFR] at hc'
        obtain ⟨a, h1, h2, h3, h4, _⟩ := all_mem rt.al (free_mem.1 hc').1
        have := (stand_ok h3).bounds
        rw [← h4] at this
        omega
      have hl9 : FR.length ≤ 960 := by rw [hFR]; exact Nat.le_trans (List.length_filter_le _ _) (all_len rt.al)
      have TK := Lib.hid (fun v w h => Takes21_any v FR (n : Int) hsF hl9 w h)
      by_cases hnx : next (slots l) = none
      case pos =>
        rw [if_pos hnx] at hE
        have hrc : r = 23 := by rw [hr, hE]
        obtain ⟨rfl, rfl, rfl⟩ := hx0 (by rw [hrc]; decide)
        subst hrc
        have hx1 : decide (nx < 0) = true := by rw [hnx9, hSL, nextI, hnx]; rfl
        clear hx hs1 hs2 hr h hc hx0 rt hT hNT hty hkT htyI hn hE hnx9 hnx ht hSL hFR hsF hl9 htl
        go_enter Tryz.func23, Tryz.ntmps23
        go_upto_region 1 with (fail)
        refine wp_gen (fun Wv => Bx Wv (w.heap.size) (39) (#[.int .i64 0, .int .i64 0]) ∧ Below w.heap.size w Wv) ⟨((Bx.at_ (by simp))), ((Below.refl _ w).alloc (by simp <;> omega) _)⟩ ?_
        rintro wa1 ⟨g1, b⟩
        replace B := B.trans (b.mono B.size); clear b
        have c_g1 := g1.cell; have f_g1 := g1.free; have a_g1 := fun o => (g1.alloc o).cell; have d_g1 := fun o o2 => ((g1.alloc o).alloc o2).cell; have e_g1 := fun o => (g1.alloc o).free
        go_wp2_with fail
        refine (CK.out _ (H.out.below B)).mono ?_
        rintro e wa2 ⟨rfl, b⟩
        try clear c_g1 f_g1 a_g1 d_g1 e_g1
        replace g1 := g1.below b; have c_g1 := g1.cell; have f_g1 := g1.free; have a_g1 := fun o => (g1.alloc o).cell; have d_g1 := fun o o2 => ((g1.alloc o).alloc o2).cell; have e_g1 := fun o => (g1.alloc o).free; replace B := B.trans (b.mono B.size); clear b
        go_wp2_with fail
        refine (KT.out _ (H.out.below B)).mono ?_
        rintro e wa3 ⟨xt, rfl, ot, b⟩
        try clear c_g1 f_g1 a_g1 d_g1 e_g1
        replace g1 := g1.below b; have c_g1 := g1.cell; have f_g1 := g1.free; have a_g1 := fun o => (g1.alloc o).cell; have d_g1 := fun o o2 => ((g1.alloc o).alloc o2).cell; have e_g1 := fun o => (g1.alloc o).free; replace B := B.trans (b.mono B.size); clear b
        have rt9 := ot.rd
        have lt := rt9.len
        rw [← HNT.out] at lt
        clear ot
        go_wp2_with fail
        refine (ST.out _ (H.out.below B)).mono ?_
        rintro e wa4 ⟨xs, rfl, os, b⟩
        try clear c_g1 f_g1 a_g1 d_g1 e_g1
        replace g1 := g1.below b; have c_g1 := g1.cell; have f_g1 := g1.free; have a_g1 := fun o => (g1.alloc o).cell; have d_g1 := fun o o2 => ((g1.alloc o).alloc o2).cell; have e_g1 := fun o => (g1.alloc o).free; replace rt9 := rt9.below b; replace B := B.trans (b.mono B.size); clear b
        have rs := os.rd
        clear os
        go_wp2_with fail
        refine (NX.out _ _ rs).mono ?_
        rintro e w4 ⟨rfl, rfl⟩
        clear rs
        go_wp2
        refine bodyPost_ret (v := .tuple #[.slice none 0 0, .agg #[.int .i64 0, .int .i64 0], .int .i64 23]) (by simp [results, Tryz.results23, go_sem, c_g1, f_g1]) rfl ?_
        refine ⟨_, rfl, OwnE.nil _ _, ?_⟩
        (repeat (first | refine Below.setCell ?_ (by first | exact Nat.le_refl _ | (simp <;> omega)) _ | refine Below.alloc ?_ (by first | exact B.size | (have := B.size; simp <;> omega)) _)); exact B
      case neg =>
        rw [if_neg hnx] at hE
        have hx1 : decide (nx < 0) = false := by
          obtain ⟨k0, hk0⟩ := Option.ne_none_iff_exists'.1 hnx
          rw [hnx9, hSL, nextI, hk0]
          exact decide_eq_false (by show ¬ ((k0 : Nat) : Int) < 0; omega)
        by_cases htk : (takes (freeL l) n).isSome
        case neg =>
          rw [if_neg htk] at hE
          have hrc : r = 20 := by rw [hr, hE]
          obtain ⟨rfl, rfl, rfl⟩ := hx0 (by rw [hrc]; decide)
          subst hrc
          have HTK := Lib.hid (show takes FR n = none by rw [hFR]; exact Option.not_isSome_iff_eq_none.1 htk)
          clear hx hs1 hs2 hr h hc hx0 rt hT hNT hty hkT htyI hn hE hnx9 hnx ht hSL hFR hsF hl9 htl htk
          go_enter Tryz.func23, Tryz.ntmps23
          go_upto_region 1 with (fail)
          refine wp_gen (fun Wv => Bx Wv (w.heap.size) (39) (#[.int .i64 0, .int .i64 0]) ∧ Below w.heap.size w Wv) ⟨((Bx.at_ (by simp))), ((Below.refl _ w).alloc (by simp <;> omega) _)⟩ ?_
          rintro wa1 ⟨g1, b⟩
          replace B := B.trans (b.mono B.size); clear b
          have c_g1 := g1.cell; have f_g1 := g1.free; have a_g1 := fun o => (g1.alloc o).cell; have d_g1 := fun o o2 => ((g1.alloc o).alloc o2).cell; have e_g1 := fun o => (g1.alloc o).free
          go_wp2_with fail
          refine (CK.out _ (H.out.below B)).mono ?_
          rintro e wa2 ⟨rfl, b⟩
          try clear c_g1 f_g1 a_g1 d_g1 e_g1
          replace g1 := g1.below b; have c_g1 := g1.cell; have f_g1 := g1.free; have a_g1 := fun o => (g1.alloc o).cell; have d_g1 := fun o o2 => ((g1.alloc o).alloc o2).cell; have e_g1 := fun o => (g1.alloc o).free; replace B := B.trans (b.mono B.size); clear b
          go_wp2_with fail
          refine (KT.out _ (H.out.below B)).mono ?_
          rintro e wa3 ⟨xt, rfl, ot, b⟩
          try clear c_g1 f_g1 a_g1 d_g1 e_g1
          replace g1 := g1.below b; have c_g1 := g1.cell; have f_g1 := g1.free; have a_g1 := fun o => (g1.alloc o).cell; have d_g1 := fun o o2 => ((g1.alloc o).alloc o2).cell; have e_g1 := fun o => (g1.alloc o).free; replace B := B.trans (b.mono B.size); clear b
          have rt9 := ot.rd
          have lt := rt9.len
          rw [← HNT.out] at lt
          clear ot
          go_wp2_with fail
          refine (ST.out _ (H.out.below B)).mono ?_
          rintro e wa4 ⟨xs, rfl, os, b⟩
          try clear c_g1 f_g1 a_g1 d_g1 e_g1
          replace g1 := g1.below b; have c_g1 := g1.cell; have f_g1 := g1.free; have a_g1 := fun o => (g1.alloc o).cell; have d_g1 := fun o o2 => ((g1.alloc o).alloc o2).cell; have e_g1 := fun o => (g1.alloc o).free; replace rt9 := rt9.below b; replace B := B.trans (b.mono B.size); clear b
          have rs := os.rd
          clear os
          go_wp2_with fail
          refine (NX.out _ _ rs).mono ?_
          rintro e w4 ⟨rfl, rfl⟩
          clear rs
          obtain ⟨ad, xb, tb, it, m0, ht, hby⟩ := rt9.at_ (k := q) (by rw [← HNT.out]; exact hqN)
          obtain rfl : tb = ty := by have := ht.out; rw [HTQ.out] at this; injection this with e; exact e.symm
          have hby2 := hby.out
          have lb := Rd.len (P := Tryz.prog) hby2 Tryz.underlying83
          clear rt9 ht hby lt
          go_wp2_with fail
          refine (WT.out _).mono ?_
          rintro e w5 ⟨rfl, rfl⟩
          clear m0 it hby2 lb
          go_wp2_with fail
          refine (FT.out _ (H.out.below B)).mono ?_
          rintro e wa5 ⟨xl, rfl, ol, b⟩
          try clear c_g1 f_g1 a_g1 d_g1 e_g1
          replace g1 := g1.below b; have c_g1 := g1.cell; have f_g1 := g1.free; have a_g1 := fun o => (g1.alloc o).cell; have d_g1 := fun o o2 => ((g1.alloc o).alloc o2).cell; have e_g1 := fun o => (g1.alloc o).free; replace B := B.trans (b.mono B.size); clear b
          have rl : Blks wa5 xl FR := ol.rd
          clear ol
          go_wp2_with fail
          refine (TK.out _ _ rl).mono ?_
          rintro e w7 ⟨_, he, b⟩
          have he := he HTK.out
          subst he
          replace g1 := g1.below b; replace B := B.trans (b.mono B.size)
          clear c_g1 f_g1 a_g1 d_g1 e_g1 rl b
          go_upto_region 12 with (fail)
          refine wp_gen (fun Wv => Below w7.heap.size w7 Wv) ((Below.refl _ w7).alloc (by simp <;> omega) _) ?_
          intro wa6 b
          try clear c_g1 f_g1 a_g1 d_g1 e_g1
          replace g1 := g1.below b; have c_g1 := g1.cell; have f_g1 := g1.free; have a_g1 := fun o => (g1.alloc o).cell; have d_g1 := fun o o2 => ((g1.alloc o).alloc o2).cell; have e_g1 := fun o => (g1.alloc o).free; replace B := B.trans (b.mono B.size); clear b
          go_wp2
          refine bodyPost_ret (v := .tuple #[.slice none 0 0, .agg #[.int .i64 0, .int .i64 0], .int .i64 20]) (by simp [results, Tryz.results23, go_sem, c_g1, f_g1]) rfl ?_
          refine ⟨_, rfl, OwnE.nil _ _, ?_⟩
          (repeat (first | refine Below.setCell ?_ (by first | exact Nat.le_refl _ | (simp <;> omega)) _ | refine Below.alloc ?_ (by first | exact B.size | (have := B.size; simp <;> omega)) _)); exact B
        case pos =>
          rw [if_pos htk] at hE
          have hr0 : r = 0 := by rw [hr, hE]
          subst hr0
          obtain ⟨q', k, p, n', c, g0, b, t', PP, SS, e1, al⟩ := Al.of (l := l) (ti := (q : Int)) hE
          obtain rfl : q' = q := by omega
          obtain rfl : t' = ty := by have := al.hT; rw [← hT, hty] at this; injection this with e; exact e.symm
          obtain rfl : n' = n := by rw [al.hn, hn]
          have HTK := Lib.hid (show takes FR n' = some b by rw [hFR]; exact al.htk)
          obtain ⟨pv, hpv⟩ : ∃ p9, p9 = pk ⟨g0 + 1, true, (p : Int)⟩ := ⟨_, rfl⟩
          obtain ⟨ow, how⟩ : ∃ x, x = L14.word (objH p n' q') := ⟨_, rfl⟩
          have hc2 := al.hc; have hp2 := al.hp; have hsz := rt.sz.2.1; have hg := al.hg; have hk16 := al.hk
          have N2 := Lib.hid (fun w h => NewR18_any v l (p : Int) (k : Int) (g0 + 1) (112 + (k : Int)) pv 0 (by rw [newSlot, if_pos (by unfold L18.newErr; rw [if_pos rt.sl, if_pos (by omega), if_neg hnx]), al.hnx]; rfl) (by rw [newGen, if_pos (by unfold L18.newErr; rw [if_pos rt.sl, if_pos (by omega), if_neg hnx]), al.hnx, Option.getD_some, List.getD_eq_getElem?_getD, al.hs]; rfl) (by rw [newAt, if_pos (by unfold L18.newErr; rw [if_pos rt.sl, if_pos (by omega), if_neg hnx]), al.hnx]; rfl) (by rw [newVal, if_pos (by unfold L18.newErr; rw [if_pos rt.sl, if_pos (by omega), if_neg hnx]), newGen, if_pos (by unfold L18.newErr; rw [if_pos rt.sl, if_pos (by omega), if_neg hnx]), al.hnx, Option.getD_some, List.getD_eq_getElem?_getD, al.hs, hpv]; rfl) (by unfold L18.newErr; rw [if_pos rt.sl, if_pos (by omega), if_neg hnx]) w h)
          have hokO : BkOk (objH p n' q') := by
            refine ⟨⟨?_, ?_⟩, .inl ⟨rfl, ⟨?_, ?_⟩, ?_⟩⟩
            · show (2 : Int) ≤ (n' : Int); omega
            · show (n' : Int) % 2 = 0; omega
            · show (0 : Int) ≤ (q' : Int); omega
            · show (q' : Int) < 8; omega
            · show (n' : Int) ≤ 10; omega
          have WD : Hid (∀ w, Calls Tryz.prog 81 #[.int .i64 1, .bool false, .int .i64 (q' : Int), .int .i64 (n' : Int)] w fun e w' => e = .returned (.int .u64 ow.toNat) ∧ Below w.heap.size w w') := Lib.hid (fun w => WordHR_any (objH p n' q') hokO ow how w)
          have RS := Lib.hid (fun w => Rest21_any p n' c b al.hat al.hsz (by omega) (by omega) w)
          have hEE := al.hAL
          rw [← hx, ← hpv] at hEE
          have hnw : newW p n' q' c = (ow :: List.replicate (n' - 1) 0) ++ if c = n' then [] else [L14.word (restH p n' c)] := by rw [how]; rfl
          rw [hnw, runE_app] at hEE
          have hlen1 : ((ow :: List.replicate (n' - 1) (0 : UInt64)).length : Int) = (n' : Int) := by rw [List.length_cons, List.length_replicate]; omega
          rw [hlen1] at hEE
          have hs1' : s1 = (k : Int) := by rw [hs1, al.hS]
          have hs2' : s2 = g0 + 1 := by rw [hs2, al.hG]
          subst hs1'; subst hs2'
          have b1 := al.hat; have b2 := al.hsz
          obtain ⟨bat, bsz, bk1, bty, bmk, bnx⟩ := b
          dsimp only at RS b1 b2
          subst b1; subst b2
          have HEE := Lib.hid hEE
          obtain ⟨rw9, hrw⟩ : ∃ x, x = L14.word (restH p n' c) := ⟨_, rfl⟩
          have OF : c ≠ n' → Hid (∀ w, Calls Tryz.prog 64 #[.agg #[.int .i64 ((p : Int) + (n' : Int)), .int .i64 ((c : Int) - (n' : Int)), .int .i64 2, .int .i64 0, .bool false, .int .u64 0]] w fun e w' => e = .returned (.int .u64 rw9.toNat) ∧ Below w.heap.size w w') := fun hcn => by
            have hokR : BkOk (restH p n' c) := by
              refine ⟨⟨?_, ?_⟩, .inr ⟨rfl, rfl, rfl, ?_⟩⟩
              · show (2 : Int) ≤ ((c - n' : Nat) : Int); omega
              · show ((c - n' : Nat) : Int) % 2 = 0; omega
              · show ((c - n' : Nat) : Int) ≤ 1920; omega
            refine Lib.hid (fun w => ?_)
            have h9 := OfHR_any (restH p n' c) hokR rw9 hrw w
            have e1 : ((p + n' : Nat) : Int) = (p : Int) + (n' : Int) := by omega
            have e2 : ((c - n' : Nat) : Int) = (c : Int) - (n' : Int) := by omega
            unfold restH at h9
            dsimp only at h9
            rw [e1, e2] at h9
            exact h9
          have HOF := Lib.hid OF
          have HRW := Lib.hid hrw
          have hn9 : 2 ≤ n' ∧ n' ≤ 10 := ⟨hn2.1, hn2.2.1⟩
          have hc9 : n' ≤ c ∧ c ≤ 100000 := by omega
          have hp9 : p ≤ 100000 := by omega
          have w1 : IntKind.i64.wrap ((p : Int)) = (p : Int) := IntWalk.i64_in _ (by omega)
          clear hx hs1 hs2 hr h hc hx0 rt hT hNT hty hkT htyI hn hE hnx9 hnx ht hSL hFR hsF hl9 htl htk al hpv how hc2 hp2 hsz hg hk16 hokO hEE hnw hlen1 hrw OF e1 w1 hn2
          go_enter Tryz.func23, Tryz.ntmps23
          go_upto_region 1 with (fail)
          refine wp_gen (fun Wv => Bx Wv (w.heap.size) (39) (#[.int .i64 0, .int .i64 0]) ∧ Below w.heap.size w Wv) ⟨((Bx.at_ (by simp))), ((Below.refl _ w).alloc (by simp <;> omega) _)⟩ ?_
          rintro wa1 ⟨g1, b⟩
          replace B := B.trans (b.mono B.size); clear b
          have c_g1 := g1.cell; have f_g1 := g1.free; have a_g1 := fun o => (g1.alloc o).cell; have d_g1 := fun o o2 => ((g1.alloc o).alloc o2).cell; have e_g1 := fun o => (g1.alloc o).free
          go_wp2_with fail
          refine (CK.out _ (H.out.below B)).mono ?_
          rintro e wa2 ⟨rfl, b⟩
          try clear c_g1 f_g1 a_g1 d_g1 e_g1
          replace g1 := g1.below b; have c_g1 := g1.cell; have f_g1 := g1.free; have a_g1 := fun o => (g1.alloc o).cell; have d_g1 := fun o o2 => ((g1.alloc o).alloc o2).cell; have e_g1 := fun o => (g1.alloc o).free; replace B := B.trans (b.mono B.size); clear b
          go_wp2_with fail
          refine (KT.out _ (H.out.below B)).mono ?_
          rintro e wa3 ⟨xt, rfl, ot, b⟩
          try clear c_g1 f_g1 a_g1 d_g1 e_g1
          replace g1 := g1.below b; have c_g1 := g1.cell; have f_g1 := g1.free; have a_g1 := fun o => (g1.alloc o).cell; have d_g1 := fun o o2 => ((g1.alloc o).alloc o2).cell; have e_g1 := fun o => (g1.alloc o).free; replace B := B.trans (b.mono B.size); clear b
          have rt9 := ot.rd
          have lt := rt9.len
          rw [← HNT.out] at lt
          clear ot
          go_wp2_with fail
          refine (ST.out _ (H.out.below B)).mono ?_
          rintro e wa4 ⟨xs, rfl, os, b⟩
          try clear c_g1 f_g1 a_g1 d_g1 e_g1
          replace g1 := g1.below b; have c_g1 := g1.cell; have f_g1 := g1.free; have a_g1 := fun o => (g1.alloc o).cell; have d_g1 := fun o o2 => ((g1.alloc o).alloc o2).cell; have e_g1 := fun o => (g1.alloc o).free; replace rt9 := rt9.below b; replace B := B.trans (b.mono B.size); clear b
          have rs := os.rd
          clear os
          go_wp2_with fail
          refine (NX.out _ _ rs).mono ?_
          rintro e w4 ⟨rfl, rfl⟩
          clear rs
          obtain ⟨ad, xb, tb, it, m0, ht, hby⟩ := rt9.at_ (k := q') (by rw [← HNT.out]; exact hqN)
          obtain rfl : tb = t' := by have := ht.out; rw [HTQ.out] at this; injection this with e; exact e.symm
          have hby2 := hby.out
          have lb := Rd.len (P := Tryz.prog) hby2 Tryz.underlying83
          clear rt9 ht hby lt
          go_wp2_with fail
          refine (WT.out _).mono ?_
          rintro e w5 ⟨rfl, rfl⟩
          clear m0 it hby2 lb
          go_wp2_with fail
          refine (FT.out _ (H.out.below B)).mono ?_
          rintro e wa5 ⟨xl, rfl, ol, b⟩
          try clear c_g1 f_g1 a_g1 d_g1 e_g1
          replace g1 := g1.below b; have c_g1 := g1.cell; have f_g1 := g1.free; have a_g1 := fun o => (g1.alloc o).cell; have d_g1 := fun o o2 => ((g1.alloc o).alloc o2).cell; have e_g1 := fun o => (g1.alloc o).free; replace B := B.trans (b.mono B.size); clear b
          have rl : Blks wa5 xl FR := ol.rd
          clear ol
          go_wp2_with fail
          refine (TK.out _ _ rl).mono ?_
          rintro e w7 ⟨he, _, b⟩
          have he := he _ HTK.out
          subst he
          replace g1 := g1.below b; replace B := B.trans (b.mono B.size)
          clear c_g1 f_g1 a_g1 d_g1 e_g1 rl b
          go_upto_region 12 with (fail)
          refine wp_gen (fun Wv => Bx Wv (w7.heap.size) (82) (#[.int .i64 p, .int .i64 c, .int .i64 bk1, .int .i64 bty, .bool bmk, .int .u64 bnx.toNat]) ∧ Below w7.heap.size w7 Wv) ⟨((Bx.at_ (by simp))), ((Below.refl _ w7).alloc (by simp <;> omega) _)⟩ ?_
          rintro wa6 ⟨g4, b⟩
          try clear c_g1 f_g1 a_g1 d_g1 e_g1
          replace g1 := g1.below b; have c_g1 := g1.cell; have f_g1 := g1.free; have a_g1 := fun o => (g1.alloc o).cell; have d_g1 := fun o o2 => ((g1.alloc o).alloc o2).cell; have e_g1 := fun o => (g1.alloc o).free; replace B := B.trans (b.mono B.size); clear b
          have c_g4 := g4.cell; have f_g4 := g4.free; have a_g4 := fun o => (g4.alloc o).cell; have d_g4 := fun o o2 => ((g4.alloc o).alloc o2).cell; have e_g4 := fun o => (g4.alloc o).free
          go_wp2_with fail
          refine (N2.out _ (H.out.below B)).mono ?_
          rintro e wa7 ⟨rfl, b⟩
          try clear c_g1 f_g1 a_g1 d_g1 e_g1
          replace g1 := g1.below b; have c_g1 := g1.cell; have f_g1 := g1.free; have a_g1 := fun o => (g1.alloc o).cell; have d_g1 := fun o o2 => ((g1.alloc o).alloc o2).cell; have e_g1 := fun o => (g1.alloc o).free; try clear c_g4 f_g4 a_g4 d_g4 e_g4
          replace g4 := g4.below b; have c_g4 := g4.cell; have f_g4 := g4.free; have a_g4 := fun o => (g4.alloc o).cell; have d_g4 := fun o o2 => ((g4.alloc o).alloc o2).cell; have e_g4 := fun o => (g4.alloc o).free; replace B := B.trans (b.mono B.size); clear b
          go_upto_region 15 with (fail)
          refine wp_gen (fun Wv => Bx Wv (wa7.heap.size) (39) (#[.int .i64 k, .int .i64 (g0 + 1)]) ∧ Bx Wv (wa7.heap.size + 1) (120) (#[.int .i64 (112 + (k : Int)), .int .u64 pv.toNat]) ∧ Below wa7.heap.size wa7 Wv) ⟨(((Bx.at_ (by simp)).alloc _)), ((Bx.at_ (by simp))), (((Below.refl _ wa7).alloc (by simp <;> omega) _).alloc (by simp <;> omega) _)⟩ ?_
          rintro wa8 ⟨g5, g6, b⟩
          try clear c_g1 f_g1 a_g1 d_g1 e_g1
          replace g1 := g1.below b; have c_g1 := g1.cell; have f_g1 := g1.free; have a_g1 := fun o => (g1.alloc o).cell; have d_g1 := fun o o2 => ((g1.alloc o).alloc o2).cell; have e_g1 := fun o => (g1.alloc o).free; try clear c_g4 f_g4 a_g4 d_g4 e_g4
          replace g4 := g4.below b; have c_g4 := g4.cell; have f_g4 := g4.free; have a_g4 := fun o => (g4.alloc o).cell; have d_g4 := fun o o2 => ((g4.alloc o).alloc o2).cell; have e_g4 := fun o => (g4.alloc o).free; replace B := B.trans (b.mono B.size); clear b
          have c_g5 := g5.cell; have f_g5 := g5.free; have a_g5 := fun o => (g5.alloc o).cell; have d_g5 := fun o o2 => ((g5.alloc o).alloc o2).cell; have e_g5 := fun o => (g5.alloc o).free
          have c_g6 := g6.cell; have f_g6 := g6.free; have a_g6 := fun o => (g6.alloc o).cell; have d_g6 := fun o o2 => ((g6.alloc o).alloc o2).cell; have e_g6 := fun o => (g6.alloc o).free
          have hz := B.size
          have c_4 := fun x : Fut wa8 => (g4.below x.h).cell
          have c_6 := fun x : Fut wa8 => (g6.below x.h).cell
          refine wp_region_f3 8 5 7 (fun v => v = .int .u64 ow.toNat) (fun v => ∃ p, v = .slice (some ⟨p, 0, none⟩) 2 2) (fun _ _ => True) (fun v W => ∃ q, v = .slice (some ⟨q, 0, none⟩) 2 2 ∧ wa8.heap.size ≤ q ∧ Bx W q 120 #[.int .i64 (112 + (k : Int)), .int .u64 pv.toNat, .int .i64 p, .int .u64 ow.toNat]) (by decide) ⟨_, rfl⟩ ⟨_, 0, rfl⟩ (fun _ _ _ _ _ => trivial) (fun v W W' ⟨q, h1, h2, h3⟩ b => ⟨q, h1, h2, h3.below b⟩) (by kernel_rfl) (by kernel_rfl) (by kernel_rfl) ?_
          intro gg hv0 hv1
          obtain ⟨pq, hy1⟩ := hv1
          simp only [List.take_succ_cons, List.take_zero, List.drop_succ_cons, List.drop_zero]
          iterate 5 (refine wpH_read0 rfl rfl ?_; go_big_quiet_step (fail); refine wpQuiet_nil ?_)
          refine wpH_new rfl rfl (TS.call (av := #[.int .i64 1, .bool false, .int .i64 (q' : Int), .int .i64 (n' : Int)]) (by simp [Act.eval]) (fun W => enter_word14 _ _ _ _ W) ?_) ?_
          · intro W hW _
            refine (WD.out W).mono ?_
            rintro e W' ⟨rfl, bb⟩
            exact ⟨_, rfl, ⟨fun _ => rfl, fun e => (by cases e)⟩, bb, fun g' hg' _ => ⟨fun _ => trivial, fun e => (by cases e)⟩⟩
          rw [hv0]
          simp only [Act.put, List.setIfInBounds_toArray, List.set_cons_zero, List.set_cons_succ]
          iterate 1 (refine wpH_read0 rfl rfl ?_; go_big_quiet_step (fail); refine wpQuiet_nil ?_)
          refine wpH_new rfl rfl (TS.val ?_) ?_
          · intro W hW _
            exact ⟨.slice (some ⟨W.heap.size, 0, none⟩) 2 2, W.alloc (.cells #[.int .i64 (112 + (k : Int)), .int .u64 pv.toNat, .int .i64 p, .int .u64 ow.toNat] 120), by simp [execOp, go_sem], ⟨fun e => (by cases e), fun _ => ⟨_, rfl⟩⟩, (Below.refl _ _).alloc (Nat.le_refl _) _, fun g' hg' _ => ⟨fun e => (by cases e), fun _ => ⟨_, hg', hW.size, Bx.new _ _ _⟩⟩⟩
          rw [hy1]
          simp only [Act.put, List.setIfInBounds_toArray, List.set_cons_zero, List.set_cons_succ]
          refine wpH_nil ?_
          intro W2 bW _ o1
          obtain ⟨q2, e1, hq2, hbx⟩ := o1
          obtain rfl : pq = q2 := by injection e1 with e1; injection e1 with e1; injection e1
          have HL := Lib.hid (show OwnE W2 wa8.heap.size (.slice (some ⟨pq, 0, none⟩) 2 2) ((112 + (k : Int), pv) :: runE (p : Int) (ow :: List.replicate 0 0)) ∧ Below wa8.heap.size wa8 W2 from ⟨bx_ents hbx hq2, bW⟩)
          have HG := Lib.hid (And.intro g1 (And.intro g4 (And.intro g5 B)))
          clear hbx hq2 e1 hy1 hv0 c_4 c_6 g1 g4 g5 g6 c_g1 f_g1 a_g1 d_g1 e_g1 c_g4 f_g4 a_g4 d_g4 e_g4 c_g5 f_g5 a_g5 d_g5 e_g5 c_g6 f_g6 a_g6 d_g6 e_g6 B bW
          go_wp2
          go_loopg [18, 19] n' (fun gg ov i wr => ∃ m j : Nat, m + 1 ≤ n' ∧ gg = n' - m ∧ i = .int .i64 (j : Int) ∧ Hid (j = m + 1) ∧ Hid (OwnE wr wa8.heap.size ov ((112 + (k : Int), pv) :: runE (p : Int) (ow :: List.replicate m 0)) ∧ Below wa8.heap.size wa8 wr))
          case atStart => exact ⟨0, 1, by omega, by omega, rfl, Lib.hid rfl, HL⟩
          case round =>
            clear HL
            obtain ⟨m, j, hm, rfl, rfl, hjm, hh⟩ := hrel
            have o1 := hh.out.1; have B2 := hh.out.2
            have hj9 : j ≤ 10 := by have := hjm.out; omega
            clear hh
            have g4 := HG.out.2.1.below B2
            by_cases hlt : m + 1 < n'
            · have g0' : decide ((j : Int) < (n' : Int)) = true := decide_eq_true (by have := hjm.out; omega)
              have g9' : decide (j < n') = true := decide_eq_true (by have := hjm.out; omega)
              obtain ⟨j2, hj2⟩ : ∃ j2, j2 = j + 1 := ⟨_, rfl⟩
              have HJ2 := Lib.hid hj2
              have w1 : IntKind.i64.wrap ((p : Int) + (j : Int)) = (p : Int) + (j : Int) := IntWalk.i64_in _ (by omega)
              have w2 : IntKind.i64.wrap ((j : Int) + 1) = ((j2 : Nat) : Int) := by rw [show ((j2 : Nat) : Int) = (j : Int) + 1 by omega]; exact IntWalk.i64_in _ (by omega)
              have hlen : ((112 + (k : Int), pv) :: runE (p : Int) (ow :: List.replicate m 0)).length ≤ 100 := by rw [List.length_cons, runE_len, List.length_cons, List.length_replicate]; omega
              have c_4 := g4.cell
              clear hj2
              go_wp2_with (at_builtin; refine wpList_append (by rfl) rfl rfl rfl Tryz.underlying49 info_ent rfl (by omega) (by exact own_below o1 ((Below.refl _ _).alloc (Nat.le_refl _) _)) (by exact lit_ent ((p : Int) + (j : Int)) 0 (by simp)) (by simp [Value.oneCell']) (by omega) (by omega) (by exact B2.alloc B2.size _) (Nat.le_refl _) ?_; intro v1 w3 o3 B3 g3)
              have HH := Lib.hid (show OwnE w3 wa8.heap.size v1 ((112 + (k : Int), pv) :: runE (p : Int) (ow :: List.replicate (m + 1) 0)) ∧ Below wa8.heap.size wa8 w3 from ⟨OwnE.of o3 (by rw [runE_zero, ← hjm.out]; exact eC_snoc ((112 + (k : Int), pv) :: runE (p : Int) (ow :: List.replicate m 0)) _ _), B3⟩)
              clear o3 B3 g3
              go_roundg (n' - (m + 1))
              case measure => omega
              case rel => exact ⟨m + 1, j2, by omega, rfl, rfl, Lib.hid (by rw [HJ2.out, hjm.out]), HH⟩
            · have g0' : decide ((j : Int) < (n' : Int)) = false := decide_eq_false (by have := hjm.out; omega)
              have g9' : decide (j < n') = false := decide_eq_false (by have := hjm.out; omega)
              have hm2 : m = n' - 1 := by omega
              rw [hm2] at o1
              have g1 := HG.out.1.below B2
              have g5 := HG.out.2.2.1.below B2
              have B := HG.out.2.2.2.trans (B2.mono hz)
              clear hm2 hlt hm hjm hj9
              have c_4 := g4.cell
              go_wp2_with fail
              refine (RS.out _).mono ?_
              rintro e w9 ⟨he, he2, b⟩
              replace g1 := g1.below b; replace g5 := g5.below b; replace o1 := o1.below b; replace B2 := B2.trans (b.mono B2.size); replace B := B.trans (b.mono B.size)
              clear g4 b c_4
              by_cases hcn : c = n'
              · have he := he hcn
                subst he
                have HEF := Lib.hid (show E = (112 + (k : Int), pv) :: runE (p : Int) (ow :: List.replicate (n' - 1) 0) by rw [HEE.out, if_pos hcn]; simp [runE])
                clear he2 hcn
                go_upto_region 21 with (fail)
                refine wp_gen (fun Wv => Bx Wv (w9.heap.size) (82) (#[.int .i64 0, .int .i64 0, .int .i64 0, .int .i64 0, .bool false, .int .u64 0]) ∧ Below w9.heap.size w9 Wv) ⟨((Bx.at_ (by simp))), ((Below.refl _ w9).alloc (by simp <;> omega) _)⟩ ?_
                rintro wa9 ⟨g7, b⟩
                try clear c_g1 f_g1 a_g1 d_g1 e_g1
                replace g1 := g1.below b; have c_g1 := g1.cell; have f_g1 := g1.free; have a_g1 := fun o => (g1.alloc o).cell; have d_g1 := fun o o2 => ((g1.alloc o).alloc o2).cell; have e_g1 := fun o => (g1.alloc o).free; try clear c_g5 f_g5 a_g5 d_g5 e_g5
                replace g5 := g5.below b; have c_g5 := g5.cell; have f_g5 := g5.free; have a_g5 := fun o => (g5.alloc o).cell; have d_g5 := fun o o2 => ((g5.alloc o).alloc o2).cell; have e_g5 := fun o => (g5.alloc o).free; replace o1 := o1.below b; replace B2 := B2.trans (b.mono B2.size); replace B := B.trans (b.mono B.size); clear b
                have c_g7 := g7.cell; have f_g7 := g7.free; have a_g7 := fun o => (g7.alloc o).cell; have d_g7 := fun o o2 => ((g7.alloc o).alloc o2).cell; have e_g7 := fun o => (g7.alloc o).free
                go_upto_region 23 with (fail)
                refine wp_region_qtail 3 (by kernel_rfl) (by kernel_rfl) ?_
                simp only [List.take_succ_cons, List.take_zero, List.drop_succ_cons, List.drop_zero]
                iterate 3 (go_big_quiet_step (fail))
                refine wpQuiet_nil ?_
                have oj : OwnE wa9 w.heap.size _ _ := own_mono o1 hz
                have HGQ := Lib.hid (And.intro oj (And.intro g1 B))
                clear oj o1 B2 g1 B g5 g7
                go_wp2
                refine bodyPost_ret (v := .tuple #[u18, .agg #[.int .i64 k, .int .i64 (g0 + 1)], .int .i64 0]) (by simp [results, Tryz.results23, go_sem, c_g1, f_g1]) rfl ?_
                obtain ⟨oj, g1, B⟩ := HGQ.out
                refine ⟨_, rfl, by rw [HEF.out]; exact own_set (own_set oj g1 (by decide)) (g1.set _) (by decide), ?_⟩
                exact (B.drew.setCell (p := ⟨w.heap.size, 0, none⟩) (Nat.le_refl _) _).setCell (p := ⟨w.heap.size, 1, none⟩) (Nat.le_refl _) _
              · have he := he2 hcn
                subst he
                have hn0 : decide ((0 : Int) < (c : Int) - (n' : Int)) = true := decide_eq_true (by omega)
                have hn1 : decide ((n' : Int) < (c : Int)) = true := decide_eq_true (by omega)
                have hn2' : decide (n' < c) = true := decide_eq_true (by omega)
                have HEF := Lib.hid (show E = ((112 + (k : Int), pv) :: runE (p : Int) (ow :: List.replicate (n' - 1) 0)) ++ [((p : Int) + (n' : Int), rw9)] by rw [HEE.out, if_neg hcn, HRW.out]; rfl)
                have OFT := HOF.out hcn
                have hlen : ((112 + (k : Int), pv) :: runE (p : Int) (ow :: List.replicate (n' - 1) 0)).length ≤ 100 := by rw [List.length_cons, runE_len, List.length_cons, List.length_replicate]; omega
                have HLEN := Lib.hid hlen
                clear he2 hcn hlen
                go_upto_region 21 with (fail)
                refine wp_gen (fun Wv => Bx Wv (w9.heap.size) (82) (#[.int .i64 ((p : Int) + (n' : Int)), .int .i64 ((c : Int) - (n' : Int)), .int .i64 2, .int .i64 0, .bool false, .int .u64 0]) ∧ Below w9.heap.size w9 Wv) ⟨((Bx.at_ (by simp))), ((Below.refl _ w9).alloc (by simp <;> omega) _)⟩ ?_
                rintro wa10 ⟨g7, b⟩
                try clear c_g1 f_g1 a_g1 d_g1 e_g1
                replace g1 := g1.below b; have c_g1 := g1.cell; have f_g1 := g1.free; have a_g1 := fun o => (g1.alloc o).cell; have d_g1 := fun o o2 => ((g1.alloc o).alloc o2).cell; have e_g1 := fun o => (g1.alloc o).free; try clear c_g5 f_g5 a_g5 d_g5 e_g5
                replace g5 := g5.below b; have c_g5 := g5.cell; have f_g5 := g5.free; have a_g5 := fun o => (g5.alloc o).cell; have d_g5 := fun o o2 => ((g5.alloc o).alloc o2).cell; have e_g5 := fun o => (g5.alloc o).free; replace o1 := o1.below b; replace B2 := B2.trans (b.mono B2.size); replace B := B.trans (b.mono B.size); clear b
                have c_g7 := g7.cell; have f_g7 := g7.free; have a_g7 := fun o => (g7.alloc o).cell; have d_g7 := fun o o2 => ((g7.alloc o).alloc o2).cell; have e_g7 := fun o => (g7.alloc o).free
                go_upto_region 22 with (fail)
                have hz9 := B2.size
                have c_7 := fun x : Fut wa10 => (g7.below x.h).cell
                refine wp_region_f3 7 4 6 (fun v => v = .int .u64 rw9.toNat) (fun v => ∃ p, v = .slice (some ⟨p, 0, none⟩) 1 1) (fun _ _ => True) (fun v W => ∃ q, v = .slice (some ⟨q, 0, none⟩) 1 1 ∧ wa10.heap.size ≤ q ∧ Bx W q 120 #[.int .i64 ((p : Int) + (n' : Int)), .int .u64 rw9.toNat]) (by decide) ⟨_, rfl⟩ ⟨_, 0, rfl⟩ (fun _ _ _ _ _ => trivial) (fun v W W' ⟨q, h1, h2, h3⟩ b => ⟨q, h1, h2, h3.below b⟩) (by kernel_rfl) (by kernel_rfl) (by kernel_rfl) ?_
                intro gg2 hw0 hw1
                obtain ⟨pr, hy2⟩ := hw1
                simp only [List.take_succ_cons, List.take_zero, List.drop_succ_cons, List.drop_zero]
                iterate 4 (refine wpH_read0 rfl rfl ?_; go_big_quiet_step (fail); refine wpQuiet_nil ?_)
                refine wpH_new rfl rfl (TS.call (av := #[.agg #[.int .i64 ((p : Int) + (n' : Int)), .int .i64 ((c : Int) - (n' : Int)), .int .i64 2, .int .i64 0, .bool false, .int .u64 0]]) (by simp [Act.eval]) (fun W => enter_of14 _ W) ?_) ?_
                · intro W hW _
                  refine (OFT.out W).mono ?_
                  rintro e W' ⟨rfl, bb⟩
                  exact ⟨_, rfl, ⟨fun _ => rfl, fun e => (by cases e)⟩, bb, fun g' hg' _ => ⟨fun _ => trivial, fun e => (by cases e)⟩⟩
                rw [hw0]
                simp only [Act.put, List.setIfInBounds_toArray, List.set_cons_zero, List.set_cons_succ]
                iterate 1 (refine wpH_read0 rfl rfl ?_; go_big_quiet_step (fail); refine wpQuiet_nil ?_)
                refine wpH_new rfl rfl (TS.val ?_) ?_
                · intro W hW _
                  exact ⟨.slice (some ⟨W.heap.size, 0, none⟩) 1 1, W.alloc (.cells #[.int .i64 ((p : Int) + (n' : Int)), .int .u64 rw9.toNat] 120), by simp [execOp, go_sem], ⟨fun e => (by cases e), fun _ => ⟨_, rfl⟩⟩, (Below.refl _ _).alloc (Nat.le_refl _) _, fun g' hg' _ => ⟨fun e => (by cases e), fun _ => ⟨_, hg', hW.size, Bx.new _ _ _⟩⟩⟩
                rw [hy2]
                simp only [Act.put, List.setIfInBounds_toArray, List.set_cons_zero, List.set_cons_succ]
                refine wpH_nil ?_
                intro W3 bW _ o2
                obtain ⟨q2, e1, hq2, hbx⟩ := o2
                obtain rfl : pr = q2 := by injection e1 with e1; injection e1 with e1; injection e1
                have r2 : Rd W3 2 (.slice (some ⟨pr, 0, none⟩) 1 1) 1 [.int .i64 ((p : Int) + (n' : Int)), .int .u64 rw9.toNat] := (bx_ent1 hbx hq2).rd
                have o3 := o1.below bW
                have B3 := B2.trans (bW.mono hz9)
                have hlen := HLEN.out
                clear hbx hq2 e1 hy2 hw0 c_7 g1 g5 g7 o1 B2 B bW c_g1 f_g1 a_g1 d_g1 e_g1 c_g5 f_g5 a_g5 d_g5 e_g5 c_g7 f_g7 a_g7 d_g7 e_g7
                go_upto_region 23 with (at_builtin; refine wpList_append (by rfl) rfl rfl rfl Tryz.underlying49 info_ent rfl (by omega) (by exact o3) (by exact r2) (by simp [Value.oneCell']) (by omega) (by omega) (by exact B3) (Nat.le_refl _) ?_; intro v1 w4 o4 B4 g9)
                have oj : OwnE w4 w.heap.size v1 _ := own_mono (OwnE.of (E := ((112 + (k : Int), pv) :: runE (p : Int) (ow :: List.replicate (n' - 1) 0)) ++ [((p : Int) + (n' : Int), rw9)]) o4 (eC_snoc _ _ _)) hz
                have g1 := HG.out.1.below B4
                have g5 := HG.out.2.2.1.below B4
                have B := HG.out.2.2.2.trans (B4.mono hz)
                clear r2 o3 B3 hlen o4 B4 g9
                have c_g1 := g1.cell; have f_g1 := g1.free; have c_g5 := g5.cell
                refine wp_region_qtail 3 (by kernel_rfl) (by kernel_rfl) ?_
                simp only [List.take_succ_cons, List.take_zero, List.drop_succ_cons, List.drop_zero]
                iterate 3 (go_big_quiet_step (fail))
                refine wpQuiet_nil ?_
                have HGQ := Lib.hid (And.intro oj (And.intro g1 B))
                clear oj g1 B g5
                go_wp2
                refine bodyPost_ret (v := .tuple #[v1, .agg #[.int .i64 k, .int .i64 (g0 + 1)], .int .i64 0]) (by simp [results, Tryz.results23, go_sem, c_g1, f_g1]) rfl ?_
                obtain ⟨oj, g1, B⟩ := HGQ.out
                refine ⟨_, rfl, by rw [HEF.out]; exact own_set (own_set oj g1 (by decide)) (g1.set _) (by decide), ?_⟩
                exact (B.drew.setCell (p := ⟨w.heap.size, 0, none⟩) (Nat.le_refl _) _).setCell (p := ⟨w.heap.size, 1, none⟩) (Nat.le_refl _) _
end Go.Proofs.YtmbokdnndlnjkaaGreat
