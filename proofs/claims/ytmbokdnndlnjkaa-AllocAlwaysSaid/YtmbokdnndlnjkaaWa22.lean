/- The walk of the law AllocAlways. -/
import Derived.Test.YtmbokdnndlnjkaaMAr
set_option linter.unusedVariables false
set_option linter.unusedSimpArgs false
namespace Go.Proofs.Ytmbokdnndlnjkaa
open Go.RowKit L01 L02 L05 L06 L07 L13 L14 L15 L16 L18 L19 L20

set_option maxRecDepth 100000 in
set_option maxHeartbeats 16000000 in
theorem AllocAlways_walk (v0 : Value) (l : List UInt64) (ti : Int) (w : World) (h0 : Words w v0 l) (_f1 : -9223372036854775808 ≤ ti ∧ ti ≤ 9223372036854775807) :
    Calls Try.prog 6 #[v0, .int .i64 ti] w fun e w' => e = .returned (.bool true) ∧ Below w.heap.size w w' := by
  have B : Below w.heap.size w w := Below.refl _ _
  have H := Lib.hid h0; clear h0 _f1
  have AL := Lib.hid alive22_any
  have G := Lib.hid (fun w h => Great_any v0 l w h)
  obtain ⟨gr, hgr⟩ : ∃ g, g = decide (2100 < l.length) := ⟨_, rfl⟩
  have HGR := Lib.hid hgr
  rw [← hgr] at G
  clear hgr
  cases gr
  case true =>
    go_enter Try.func6, Try.ntmps6
    go_wp2_with fail
    refine (AL.out _).mono ?_
    rintro e wa1 ⟨rfl, b⟩
    replace B := B.trans (b.mono B.size); clear b
    go_wp2_with fail
    refine (G.out _ (H.out.below B)).mono ?_
    rintro e w2 ⟨rfl, rfl⟩
    go_wp2
    go_ret
    exact ⟨rfl, B⟩
  case false =>
    have hln : l.length ≤ 2100 := by have := HGR.out; simp at this; omega
    obtain ⟨c9, hc⟩ : ∃ v, v = chk19 l := ⟨_, rfl⟩
    have CK := Lib.hid (fun w h => Check19_any v0 l c9 hc w h)
    by_cases h0 : c9 = 0
    case neg =>
      have n1 : (c9 != 0) = true := by rw [bne_iff_ne]; exact h0
      clear hc h0 hln
      go_enter Try.func6, Try.ntmps6
      go_wp2_with fail
      refine (AL.out _).mono ?_
      rintro e wa1 ⟨rfl, b⟩
      replace B := B.trans (b.mono B.size); clear b
      go_wp2_with fail
      refine (G.out _ (H.out.below B)).mono ?_
      rintro e w2 ⟨rfl, rfl⟩
      go_wp2_with fail
      refine (CK.out _ (H.out.below B)).mono ?_
      rintro e wa2 ⟨rfl, b⟩
      replace B := B.trans (b.mono B.size); clear b
      go_wp2
      go_ret
      exact ⟨rfl, B⟩
    case pos =>
      subst h0
      have rt : Rt l := Rt.of hc.symm
      obtain ⟨E, hE⟩ : ∃ x, x = aiL l ti := ⟨_, rfl⟩
      obtain ⟨s1, hs1⟩ : ∃ x, x = aiS l ti := ⟨_, rfl⟩
      obtain ⟨s2, hs2⟩ : ∃ x, x = aiG l ti := ⟨_, rfl⟩
      obtain ⟨r, hr⟩ : ∃ x, x = aiE l ti := ⟨_, rfl⟩
      have CH := Lib.hid (fun w h => Change_any v0 l ti E s1 s2 r hE hs1 hs2 hr w h)
      clear hln
      obtain ⟨T, hT⟩ : ∃ T, T = T19 l := ⟨_, rfl⟩
      obtain ⟨sw, hsw⟩ : ∃ x, x = sW l := ⟨_, rfl⟩
      obtain ⟨st, hst⟩ : ∃ x, x = sT l := ⟨_, rfl⟩
      obtain ⟨i0, hi0⟩ : ∃ x, x = is0 l := ⟨_, rfl⟩
      obtain ⟨i1, hi1⟩ : ∃ x, x = is1 l := ⟨_, rfl⟩
      have T3 := Lib.hid (fun w h => TRead_any v0 l sw st i0 i1 0 hsw hst hi0 hi1 rt.tw.symm w h)
      have KT := Lib.hid (fun w h => KTable_any v0 l st T 0 (by rw [hT, hst]; rfl) (by rw [hst]; exact rt.ty.symm) w h)
      obtain ⟨NT, hNT⟩ : ∃ N, N = T.length := ⟨_, rfl⟩
      have HNT := Lib.hid hNT
      have hNT8 : NT ≤ 8 := by rw [hNT, hT]; exact (T19_ok rt.ty).1
      by_cases ht : 0 ≤ ti ∧ ti < NT
      case neg =>
        have hrc : r = 2 := by rw [hr, aiE, if_pos hc.symm, if_neg (by rw [← hT, ← hNT]; exact ht)]
        subst hrc
        have hcase : decide (ti < 0) = true ∨ (decide (ti < 0) = false ∧ decide ((NT : Int) ≤ ti) = true) := by
          by_cases h1 : ti < 0
          · exact .inl (decide_eq_true h1)
          · exact .inr ⟨decide_eq_false h1, decide_eq_true (by omega)⟩
        clear hc rt hE hs1 hs2 hr hT hsw hst hi0 hi1 hNT ht
        rcases hcase with t1 | ⟨t1, t2⟩
        · skip
          go_enter Try.func6, Try.ntmps6
          go_wp2_with fail
          refine (AL.out _).mono ?_
          rintro e wa1 ⟨rfl, b⟩
          replace B := B.trans (b.mono B.size); clear b
          go_wp2_with fail
          refine (G.out _ (H.out.below B)).mono ?_
          rintro e w2 ⟨rfl, rfl⟩
          go_wp2_with fail
          refine (CK.out _ (H.out.below B)).mono ?_
          rintro e wa2 ⟨rfl, b⟩
          replace B := B.trans (b.mono B.size); clear b
          go_wp2_with fail
          refine (T3.out _ (H.out.below B)).mono ?_
          rintro e wa3 ⟨rfl, b⟩
          replace B := B.trans (b.mono B.size); clear b
          go_upto_region 5 with (fail)
          refine wp_gen (fun Wv => Bx Wv (wa3.heap.size) (66) (#[.int .i64 sw, .int .i64 st]) ∧ Below wa3.heap.size wa3 Wv) ⟨(((Bx.at_ (by simp)).alloc _)), (((Below.refl _ wa3).alloc (by simp <;> omega) _).alloc (by simp <;> omega) _)⟩ ?_
          rintro wa4 ⟨g2, b⟩
          replace B := B.trans (b.mono B.size); clear b
          have c_g2 := g2.cell; have f_g2 := g2.free; have a_g2 := fun o => (g2.alloc o).cell; have d_g2 := fun o o2 => ((g2.alloc o).alloc o2).cell; have e_g2 := fun o => (g2.alloc o).free
          go_wp2_with fail
          refine (KT.out _ (H.out.below B)).mono ?_
          rintro e wa5 ⟨xt, rfl, ot, b⟩
          try clear c_g2 f_g2 a_g2 d_g2 e_g2
          replace g2 := g2.below b; have c_g2 := g2.cell; have f_g2 := g2.free; have a_g2 := fun o => (g2.alloc o).cell; have d_g2 := fun o o2 => ((g2.alloc o).alloc o2).cell; have e_g2 := fun o => (g2.alloc o).free; replace B := B.trans (b.mono B.size); clear b
          have rt9 := ot.rd
          have lt := rt9.len
          rw [← HNT.out] at lt
          clear ot
          clear c_g2 f_g2 a_g2 d_g2 e_g2
          clear g2
          go_wp2_with fail
          refine (CH.out _ (H.out.below B)).mono ?_
          rintro e wa6 ⟨y, rfl, o1, b⟩
          replace rt9 := rt9.below b; replace B := B.trans (b.mono B.size); clear b
          clear o1
          go_upto_region 9 with (fail)
          refine wp_gen (fun Wv => Below wa6.heap.size wa6 Wv) ((Below.refl _ wa6).alloc (by simp <;> omega) _) ?_
          intro wa7 b
          replace rt9 := rt9.below b; replace B := B.trans (b.mono B.size); clear b
          go_wp2
          go_ret
          exact ⟨rfl, B⟩
        · skip
          go_enter Try.func6, Try.ntmps6
          go_wp2_with fail
          refine (AL.out _).mono ?_
          rintro e wa1 ⟨rfl, b⟩
          replace B := B.trans (b.mono B.size); clear b
          go_wp2_with fail
          refine (G.out _ (H.out.below B)).mono ?_
          rintro e w2 ⟨rfl, rfl⟩
          go_wp2_with fail
          refine (CK.out _ (H.out.below B)).mono ?_
          rintro e wa2 ⟨rfl, b⟩
          replace B := B.trans (b.mono B.size); clear b
          go_wp2_with fail
          refine (T3.out _ (H.out.below B)).mono ?_
          rintro e wa3 ⟨rfl, b⟩
          replace B := B.trans (b.mono B.size); clear b
          go_upto_region 5 with (fail)
          refine wp_gen (fun Wv => Bx Wv (wa3.heap.size) (66) (#[.int .i64 sw, .int .i64 st]) ∧ Below wa3.heap.size wa3 Wv) ⟨(((Bx.at_ (by simp)).alloc _)), (((Below.refl _ wa3).alloc (by simp <;> omega) _).alloc (by simp <;> omega) _)⟩ ?_
          rintro wa4 ⟨g2, b⟩
          replace B := B.trans (b.mono B.size); clear b
          have c_g2 := g2.cell; have f_g2 := g2.free; have a_g2 := fun o => (g2.alloc o).cell; have d_g2 := fun o o2 => ((g2.alloc o).alloc o2).cell; have e_g2 := fun o => (g2.alloc o).free
          go_wp2_with fail
          refine (KT.out _ (H.out.below B)).mono ?_
          rintro e wa5 ⟨xt, rfl, ot, b⟩
          try clear c_g2 f_g2 a_g2 d_g2 e_g2
          replace g2 := g2.below b; have c_g2 := g2.cell; have f_g2 := g2.free; have a_g2 := fun o => (g2.alloc o).cell; have d_g2 := fun o o2 => ((g2.alloc o).alloc o2).cell; have e_g2 := fun o => (g2.alloc o).free; replace B := B.trans (b.mono B.size); clear b
          have rt9 := ot.rd
          have lt := rt9.len
          rw [← HNT.out] at lt
          clear ot
          clear c_g2 f_g2 a_g2 d_g2 e_g2
          clear g2
          go_wp2_with fail
          refine (CH.out _ (H.out.below B)).mono ?_
          rintro e wa6 ⟨y, rfl, o1, b⟩
          replace rt9 := rt9.below b; replace B := B.trans (b.mono B.size); clear b
          clear o1
          go_upto_region 9 with (fail)
          refine wp_gen (fun Wv => Below wa6.heap.size wa6 Wv) ((Below.refl _ wa6).alloc (by simp <;> omega) _) ?_
          intro wa7 b
          replace rt9 := rt9.below b; replace B := B.trans (b.mono B.size); clear b
          go_wp2
          go_ret
          exact ⟨rfl, B⟩
      case pos =>
        obtain ⟨q, rfl⟩ := Int.eq_ofNat_of_zero_le ht.1
        have hqN : q < NT := by omega
        obtain ⟨ty, hty⟩ : ∃ t, T[q]? = some t := ⟨_, List.getElem?_eq_getElem (by omega)⟩
        have HTQ := Lib.hid hty
        have hkT := (T19_ok rt.ty).2 ty (by rw [← hT]; exact List.mem_of_getElem? hty)
        have ht8 := (kErr_ok hkT).1
        have htyI : tyI l (q : Int) = ty := by unfold tyI; rw [Int.toNat_natCast, ← hT, List.getD_eq_getElem?_getD, hty]; rfl
        obtain ⟨n, hn⟩ : ∃ n, n = sizT ty := ⟨_, rfl⟩
        have hn2 : 2 ≤ n ∧ n ≤ 10 ∧ n % 2 = 0 := by rw [hn]; unfold sizT; omega
        have hks : (n : Int) = kSize ty := by rw [hn, kSize, if_pos hkT]; unfold sizT; omega
        have KS := Lib.hid (fun v w h => KSize_any v ty (n : Int) 0 hks hkT.symm w h)
        have t1 : decide ((q : Int) < 0) = false := decide_eq_false (by omega)
        have t2 : decide ((NT : Int) ≤ (q : Int)) = false := decide_eq_false (by omega)
        have hEE : aiE l q = (if next (slots l) = none then 23 else if (takes (freeL l) n).isSome then 0 else 20) := by
          rw [aiE, if_pos hc.symm, if_pos (by rw [← hT, ← hNT]; exact ht), htyI, ← hn]
        obtain ⟨e9, he9⟩ : ∃ e, e = L18.newErr l 128 := ⟨_, rfl⟩
        obtain ⟨s9, hs9⟩ : ∃ e, e = newSlot l 128 := ⟨_, rfl⟩
        obtain ⟨g9, hg9⟩ : ∃ e, e = newGen l 128 := ⟨_, rfl⟩
        obtain ⟨a9, ha9⟩ : ∃ e, e = newAt l 128 := ⟨_, rfl⟩
        obtain ⟨v9, hv9⟩ : ∃ e, e = newVal l 128 := ⟨_, rfl⟩
        have N1 := Lib.hid (fun w h => New18_any v0 l 128 s9 g9 a9 v9 e9 hs9 hg9 ha9 hv9 he9 w h)
        have hnE : e9 = if next (slots l) = none then 23 else 0 := by rw [he9]; unfold L18.newErr; rw [if_pos rt.sl, if_pos (by decide)]
        obtain ⟨fe, hfe⟩ : ∃ e, e = fitE l n := ⟨_, rfl⟩
        obtain ⟨fb, hfb⟩ : ∃ b, b = fitB l n := ⟨_, rfl⟩
        have FF := Lib.hid (fun w h => FitFind_any v0 l (n : Int) fb fe hfb hfe w h)
        have hRn : RightN (n : Int) := ⟨by omega, by omega, by omega⟩
        have hfE : fe = if (takes (freeL l) n).isSome then 0 else 20 := by rw [hfe, fitE, if_pos rt.al, if_pos hRn]
        rw [← hr] at hEE
        obtain ⟨bat, bsz, bk1, bty, bmk, bnx⟩ := fb
        dsimp only at FF
        by_cases hnx : next (slots l) = none
        case pos =>
          rw [if_pos hnx] at hEE hnE
          subst hEE; subst hnE
          clear hc rt hE hs1 hs2 hr hT hsw hst hi0 hi1 hNT ht hty hkT ht8 htyI hn hks he9 hs9 hg9 ha9 hv9 hfe hfb hRn hfE hnx
          go_enter Try.func6, Try.ntmps6
          go_wp2_with fail
          refine (AL.out _).mono ?_
          rintro e wa1 ⟨rfl, b⟩
          replace B := B.trans (b.mono B.size); clear b
          go_wp2_with fail
          refine (G.out _ (H.out.below B)).mono ?_
          rintro e w2 ⟨rfl, rfl⟩
          go_wp2_with fail
          refine (CK.out _ (H.out.below B)).mono ?_
          rintro e wa2 ⟨rfl, b⟩
          replace B := B.trans (b.mono B.size); clear b
          go_wp2_with fail
          refine (T3.out _ (H.out.below B)).mono ?_
          rintro e wa3 ⟨rfl, b⟩
          replace B := B.trans (b.mono B.size); clear b
          go_upto_region 5 with (fail)
          refine wp_gen (fun Wv => Bx Wv (wa3.heap.size) (66) (#[.int .i64 sw, .int .i64 st]) ∧ Below wa3.heap.size wa3 Wv) ⟨(((Bx.at_ (by simp)).alloc _)), (((Below.refl _ wa3).alloc (by simp <;> omega) _).alloc (by simp <;> omega) _)⟩ ?_
          rintro wa4 ⟨g2, b⟩
          replace B := B.trans (b.mono B.size); clear b
          have c_g2 := g2.cell; have f_g2 := g2.free; have a_g2 := fun o => (g2.alloc o).cell; have d_g2 := fun o o2 => ((g2.alloc o).alloc o2).cell; have e_g2 := fun o => (g2.alloc o).free
          go_wp2_with fail
          refine (KT.out _ (H.out.below B)).mono ?_
          rintro e wa5 ⟨xt, rfl, ot, b⟩
          try clear c_g2 f_g2 a_g2 d_g2 e_g2
          replace g2 := g2.below b; have c_g2 := g2.cell; have f_g2 := g2.free; have a_g2 := fun o => (g2.alloc o).cell; have d_g2 := fun o o2 => ((g2.alloc o).alloc o2).cell; have e_g2 := fun o => (g2.alloc o).free; replace B := B.trans (b.mono B.size); clear b
          have rt9 := ot.rd
          have lt := rt9.len
          rw [← HNT.out] at lt
          clear ot
          clear c_g2 f_g2 a_g2 d_g2 e_g2
          clear g2
          go_wp2_with fail
          refine (CH.out _ (H.out.below B)).mono ?_
          rintro e wa6 ⟨y, rfl, o1, b⟩
          replace rt9 := rt9.below b; replace B := B.trans (b.mono B.size); clear b
          clear o1
          go_upto_region 9 with (fail)
          refine wp_gen (fun Wv => Below wa6.heap.size wa6 Wv) ((Below.refl _ wa6).alloc (by simp <;> omega) _) ?_
          intro wa7 b
          replace rt9 := rt9.below b; replace B := B.trans (b.mono B.size); clear b
          obtain ⟨ad, xb, tb, it, m0, ht, hby⟩ := rt9.at_ (k := q) (by rw [← HNT.out]; exact hqN)
          obtain rfl : tb = ty := by have := ht.out; rw [HTQ.out] at this; injection this with e; exact e.symm
          have hby2 := hby.out
          clear rt9 ht hby
          go_upto_region 11 with (fail)
          go_wp2_with fail
          refine (KS.out _ _ hby2).mono ?_
          rintro e w9 ⟨rfl, rfl⟩
          clear m0 it hby2 lt
          go_wp2_with fail
          refine (FF.out _ (H.out.below B)).mono ?_
          rintro e wa8 ⟨rfl, b⟩
          replace B := B.trans (b.mono B.size); clear b
          go_upto_region 13 with (fail)
          refine wp_gen (fun Wv => Below wa8.heap.size wa8 Wv) ((Below.refl _ wa8).alloc (by simp <;> omega) _) ?_
          intro wa9 b
          replace B := B.trans (b.mono B.size); clear b
          go_wp2_with fail
          refine (N1.out _ (H.out.below B)).mono ?_
          rintro e wa10 ⟨rfl, b⟩
          replace B := B.trans (b.mono B.size); clear b
          go_upto_region 14 with (fail)
          refine wp_gen (fun Wv => Below wa10.heap.size wa10 Wv) (((Below.refl _ wa10).alloc (by simp <;> omega) _).alloc (by simp <;> omega) _) ?_
          intro wa11 b
          replace B := B.trans (b.mono B.size); clear b
          go_wp2
          go_ret
          exact ⟨rfl, B⟩
        case neg =>
          rw [if_neg hnx] at hEE hnE
          rw [← hfE] at hEE
          subst hEE; subst hnE
          clear hc rt hE hs1 hs2 hr hT hsw hst hi0 hi1 hNT ht hty hkT ht8 htyI hn hks he9 hs9 hg9 ha9 hv9 hfe hfb hRn hfE hnx
          go_enter Try.func6, Try.ntmps6
          go_wp2_with fail
          refine (AL.out _).mono ?_
          rintro e wa1 ⟨rfl, b⟩
          replace B := B.trans (b.mono B.size); clear b
          go_wp2_with fail
          refine (G.out _ (H.out.below B)).mono ?_
          rintro e w2 ⟨rfl, rfl⟩
          go_wp2_with fail
          refine (CK.out _ (H.out.below B)).mono ?_
          rintro e wa2 ⟨rfl, b⟩
          replace B := B.trans (b.mono B.size); clear b
          go_wp2_with fail
          refine (T3.out _ (H.out.below B)).mono ?_
          rintro e wa3 ⟨rfl, b⟩
          replace B := B.trans (b.mono B.size); clear b
          go_upto_region 5 with (fail)
          refine wp_gen (fun Wv => Bx Wv (wa3.heap.size) (66) (#[.int .i64 sw, .int .i64 st]) ∧ Below wa3.heap.size wa3 Wv) ⟨(((Bx.at_ (by simp)).alloc _)), (((Below.refl _ wa3).alloc (by simp <;> omega) _).alloc (by simp <;> omega) _)⟩ ?_
          rintro wa4 ⟨g2, b⟩
          replace B := B.trans (b.mono B.size); clear b
          have c_g2 := g2.cell; have f_g2 := g2.free; have a_g2 := fun o => (g2.alloc o).cell; have d_g2 := fun o o2 => ((g2.alloc o).alloc o2).cell; have e_g2 := fun o => (g2.alloc o).free
          go_wp2_with fail
          refine (KT.out _ (H.out.below B)).mono ?_
          rintro e wa5 ⟨xt, rfl, ot, b⟩
          try clear c_g2 f_g2 a_g2 d_g2 e_g2
          replace g2 := g2.below b; have c_g2 := g2.cell; have f_g2 := g2.free; have a_g2 := fun o => (g2.alloc o).cell; have d_g2 := fun o o2 => ((g2.alloc o).alloc o2).cell; have e_g2 := fun o => (g2.alloc o).free; replace B := B.trans (b.mono B.size); clear b
          have rt9 := ot.rd
          have lt := rt9.len
          rw [← HNT.out] at lt
          clear ot
          clear c_g2 f_g2 a_g2 d_g2 e_g2
          clear g2
          go_wp2_with fail
          refine (CH.out _ (H.out.below B)).mono ?_
          rintro e wa6 ⟨y, rfl, o1, b⟩
          replace rt9 := rt9.below b; replace B := B.trans (b.mono B.size); clear b
          clear o1
          go_upto_region 9 with (fail)
          refine wp_gen (fun Wv => Below wa6.heap.size wa6 Wv) ((Below.refl _ wa6).alloc (by simp <;> omega) _) ?_
          intro wa7 b
          replace rt9 := rt9.below b; replace B := B.trans (b.mono B.size); clear b
          obtain ⟨ad, xb, tb, it, m0, ht, hby⟩ := rt9.at_ (k := q) (by rw [← HNT.out]; exact hqN)
          obtain rfl : tb = ty := by have := ht.out; rw [HTQ.out] at this; injection this with e; exact e.symm
          have hby2 := hby.out
          clear rt9 ht hby
          go_upto_region 11 with (fail)
          go_wp2_with fail
          refine (KS.out _ _ hby2).mono ?_
          rintro e w9 ⟨rfl, rfl⟩
          clear m0 it hby2 lt
          go_wp2_with fail
          refine (FF.out _ (H.out.below B)).mono ?_
          rintro e wa8 ⟨rfl, b⟩
          replace B := B.trans (b.mono B.size); clear b
          go_upto_region 13 with (fail)
          refine wp_gen (fun Wv => Below wa8.heap.size wa8 Wv) ((Below.refl _ wa8).alloc (by simp <;> omega) _) ?_
          intro wa9 b
          replace B := B.trans (b.mono B.size); clear b
          go_wp2_with fail
          refine (N1.out _ (H.out.below B)).mono ?_
          rintro e wa10 ⟨rfl, b⟩
          replace B := B.trans (b.mono B.size); clear b
          go_upto_region 14 with (fail)
          refine wp_gen (fun Wv => Below wa10.heap.size wa10 Wv) (((Below.refl _ wa10).alloc (by simp <;> omega) _).alloc (by simp <;> omega) _) ?_
          intro wa11 b
          replace B := B.trans (b.mono B.size); clear b
          go_wp2
          go_ret
          exact ⟨rfl, B⟩
end Go.Proofs.Ytmbokdnndlnjkaa
