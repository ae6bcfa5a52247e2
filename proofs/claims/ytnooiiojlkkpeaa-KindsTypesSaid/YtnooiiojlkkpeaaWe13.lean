/- The walk of the law KindsTypes. -/
import Derived.Test.YtnooiiojlkkpeaaC13h
import Derived.Test.YtnooiiojlkkpeaaFrame2
import Derived.Deep.Cut
set_option linter.unusedVariables false
set_option linter.unusedSimpArgs false
namespace Go.Proofs.Ytnooiiojlkkpeaa
open Go.RowKit L02 L05 L13

set_option maxRecDepth 100000 in
set_option maxHeartbeats 4000000 in
theorem KindsTypes_walk (v0 : Value) (L : List (List UInt8)) (n : Int) (w : World) (h0 : Typs w v0 L) (f1 : -9223372036854775808 ≤ n ∧ n ≤ 9223372036854775807) :
    Calls Try.prog 9 #[v0, .int .i64 n] w fun e w' => e = .returned (.bool true) ∧ Below w.heap.size w w' := by
  clear f1
  have B : Below w.heap.size w w := Below.refl _ _
  have l1 := h0.len
  obtain ⟨N, hN⟩ : ∃ N, N = L.length := ⟨_, rfl⟩
  rw [← hN] at l1
  have H := Lib.hid h0; clear h0
  by_cases hb1 : 8 < N
  · skip
    go_enter Try.func9, Try.ntmps9
    go_wp2_with fail
    refine (alive13_any _).mono ?_
    rintro e w' ⟨rfl, b⟩
    replace B := B.trans (b.mono B.size); clear b
    go_wp2
    go_ret
    exact ⟨rfl, B⟩
  by_cases hn1 : n < 0
  · skip
    go_enter Try.func9, Try.ntmps9
    go_wp2_with fail
    refine (alive13_any _).mono ?_
    rintro e w' ⟨rfl, b⟩
    replace B := B.trans (b.mono B.size); clear b
    go_wp2
    go_ret
    exact ⟨rfl, B⟩
  by_cases hn2 : 8 < n
  · skip
    go_enter Try.func9, Try.ntmps9
    go_wp2_with fail
    refine (alive13_any _).mono ?_
    rintro e w' ⟨rfl, b⟩
    replace B := B.trans (b.mono B.size); clear b
    go_wp2
    go_ret
    exact ⟨rfl, B⟩
  obtain ⟨m, rfl⟩ := Int.eq_ofNat_of_zero_le (by omega : 0 ≤ n)
  have HN := Lib.hid hN; clear hN
  go_enter Try.func9, Try.ntmps9
  go_wp2_with fail
  refine (alive13_any _).mono ?_
  rintro e w' ⟨rfl, b⟩
  replace B := B.trans (b.mono B.size); clear b
  go_wp2_with (at_make; refine wpList_make (by rfl) rfl (n := 256) rfl rfl Try.underlying46 info_u64 rfl (by omega) (by omega) (B := w.heap.size) B (Nat.le_refl _) ?_; intro v1 wm hown hbel)
  obtain ⟨g6, c6, cur, rfl, _⟩ := own_form hown (by omega)
  have HM := Lib.hid (show Hid (OwnW wm w.heap.size 23 (.slice (some ⟨g6, 0, none⟩) 256 c6) (fillT L 0)) from Lib.hid hown); have HB := Lib.hid hbel; clear hown hbel B
  clear hb1 hn1 hn2
  go_loopw [7, 8, 9] (fun i p e wr => ∃ k : Nat, k ≤ N ∧ i = .int .i64 k ∧ Hid (OwnW wr w.heap.size 23 (.slice (some ⟨g6, 0, none⟩) 256 c6) (fillT L k)) ∧ Hid (∀ i, i < k → kErr (L.getD i []) = 0) ∧ Below w.heap.size w wr) (fun i _ _ _ => N - (intOf i).toNat)
  case atStart => exact ⟨0, Nat.zero_le _, rfl, HM.out, Lib.hid (fun i hi => by omega), HB.out⟩
  case round =>
    obtain ⟨k, hk, rfl, hM, hE, B⟩ := hrel
    by_cases hlt : k < N
    · obtain ⟨ad, x, s, ia, m0, hs, hx⟩ := (H.out.below B).at_ (k := k) (by have := HN.out; omega)
      have ls := Rd.len hx.out Try.underlying22
      have hsg : L.getD k [] = s := by rw [List.getD_eq_getElem?_getD, hs.out]; rfl
      have HSG := Lib.hid hsg; clear hsg
      by_cases h8 : 8 < s.length
      · go_wp2
        go_ret
        exact ⟨rfl, B⟩
      by_cases he : kErr s = 0
      · have HC := Lib.hid (fun w h => KCheck_any x s 0 he.symm w h)
        obtain ⟨a, ha⟩ : ∃ c, c = w0 s := ⟨_, rfl⟩
        obtain ⟨b, hb⟩ : ∃ c, c = w1 s := ⟨_, rfl⟩
        have HW := Lib.hid (fun w h => KWrite_any x s a b 0 ha hb he.symm w h)
        have HA := Lib.hid ha; have HBB := Lib.hid hb; have HE := Lib.hid he
        obtain ⟨M, hMM⟩ : ∃ M, M = fillT L k := ⟨_, rfl⟩
        have hMl : M.length = 256 := by rw [hMM]; exact fillT_len L k
        have o6 := hM.out
        rw [← hMM] at o6
        have HMM := Lib.hid hMM; clear hMM ha hb he hM
        go_wp2_with fail
        refine (HC.out _ hx.out).mono ?_
        rintro e w2 ⟨rfl, rfl⟩
        go_wp2_with fail
        refine (HW.out _ hx.out).mono ?_
        rintro e wa1 ⟨rfl, b⟩
        replace m0 := cell_later b m0; replace o6 := o6.below b; replace B := B.trans (b.mono B.size); clear b
        have hg6 : g6 < wa1.heap.size := own_lt o6 (by omega)
        go_wp2_with fail
        refine wp_gen (fun Wv => Bx Wv (wa1.heap.size) (29) (#[.int .u64 a.toNat, .int .u64 b.toNat]) ∧ Below wa1.heap.size wa1 Wv) ⟨((Bx.at_ (by simp))), ((Below.refl _ wa1).alloc (by simp <;> omega) _)⟩ ?_
        rintro wa2 ⟨g1, b⟩
        replace m0 := cell_later b m0; replace o6 := o6.below b; replace B := B.trans (b.mono B.size); clear b
        have c_g1 := g1.cell; have f_g1 := g1.free; have a_g1 := fun o => (g1.alloc o).cell; have d_g1 := fun o o2 => ((g1.alloc o).alloc o2).cell; have e_g1 := fun o => (g1.alloc o).free
        have o7 : wa2.ownsRow w.heap.size 23 1 (.slice (some ⟨g6, 0, none⟩) 256 c6) 256 (M.map Go.Proofs.Ytnooiiojlkkpeaa.u64) := by have := o6; unfold OwnW at this; rwa [hMl] at this
        have ix1 := own_ix (P := Try.prog) (t := 46) o7 Try.underlying46 one_u64 (j := 96 + 2 * k) (by omega)
        have ix2 := own_ix (P := Try.prog) (t := 46) o7 Try.underlying46 one_u64 (j := 97 + 2 * k) (by omega)
        rw [show ((96 + 2 * k : Nat) : Int) = 96 + 2 * (k : Int) by omega] at ix1
        rw [show ((97 + 2 * k : Nat) : Int) = 96 + 2 * (k : Int) + 1 by omega] at ix2
        have hw1 : IntKind.i64.wrap (2 * (k : Int)) = 2 * (k : Int) := IntWalk.i64_in _ (by omega)
        have hw2 : IntKind.i64.wrap (96 + 2 * (k : Int)) = 96 + 2 * (k : Int) := IntWalk.i64_in _ (by omega)
        have hw3 : IntKind.i64.wrap (96 + 2 * (k : Int) + 1) = 96 + 2 * (k : Int) + 1 := IntWalk.i64_in _ (by omega)
        clear c_g1 f_g1 a_g1 d_g1 e_g1 o7
        haveI : Nonempty (FX (FTwo w w.heap.size g6 256 c6 M (96 + 2 * k) (97 + 2 * k) a b wa1.heap.size 29 #[.int .u64 a.toNat, .int .u64 b.toNat])) := ⟨⟨_, false, false, FTwo.start B o6 g1⟩⟩
        have c1 := fun x : FX (FTwo w w.heap.size g6 256 c6 M (96 + 2 * k) (97 + 2 * k) a b wa1.heap.size 29 #[.int .u64 a.toNat, .int .u64 b.toNat]) => FTwo.cell x
        refine wp_region_flag (FTwo w w.heap.size g6 256 c6 M (96 + 2 * k) (97 + 2 * k) a b wa1.heap.size 29 #[.int .u64 a.toNat, .int .u64 b.toNat]) 14 16 (by kernel_rfl) (by kernel_rfl) true true ⟨by kernel_rfl, by kernel_rfl⟩ (FTwo.start B o6 g1) ?_
        iterate 14 (refine wpF_read rfl rfl ?_; go_big_quiet_step (fail); refine wpQuiet_nil ?_)
        refine wpF_store1 23 (.tmp 74) (.tmp 71) rfl rfl (by decide) (p := .pointer (some ⟨g6, 96 + 2 * k, none⟩)) (u := .int .u64 a.toNat) (by rfl) (by rfl) (fun b2 W h => FTwo.step hMl (by omega) (by omega) (two_set1 M (by omega) a b b2) h) ?_
        simp only [Act.put, List.setIfInBounds_toArray, List.set_cons_zero, List.set_cons_succ]
        iterate 1 (refine wpF_read rfl rfl ?_; go_big_quiet_step (fail); refine wpQuiet_nil ?_)
        refine wpF_store2 23 (.tmp 75) (.tmp 73) rfl rfl (by decide) (p := .pointer (some ⟨g6, 97 + 2 * k, none⟩)) (u := .int .u64 b.toNat) (by rfl) (by rfl) (fun b1 W h => FTwo.step hMl (by omega) (by omega) (two_set2 M _ _ a b b1) h) ?_
        simp only [Act.put, List.setIfInBounds_toArray, List.set_cons_zero, List.set_cons_succ]
        intro w6 h6
        have H6 := Lib.hid h6; clear h6 c1 ix1 ix2
        go_wp2
        go_roundw
        case rel =>
          refine ⟨k + 1, by omega, by go_num, Lib.hid ?_, Lib.hid fun i hi => ?_, H6.out.1⟩
          · have := H6.out.2.1
            rw [HMM.out, HA.out, HBB.out, ← HSG.out] at this
            exact this
          · by_cases hik : i < k
            · exact hE.out i hik
            · obtain rfl : i = k := by omega
              rw [HSG.out]; exact HE.out
        case measure => simp [intOf]; omega
      · have hne : (kErr s != 0) = true := by rw [bne_iff_ne]; exact he
        obtain ⟨e1, he1⟩ : ∃ e, e = kErr s := ⟨_, rfl⟩
        rw [← he1] at hne
        have HC := Lib.hid (fun w h => KCheck_any x s e1 he1 w h)
        clear he he1
        go_wp2_with fail
        refine (HC.out _ hx.out).mono ?_
        rintro e w2 ⟨rfl, rfl⟩
        go_wp2
        go_ret
        exact ⟨rfl, B⟩
    · have hkN : k = N := by omega
      have hN8 : L.length ≤ 8 := by have := HN.out; omega
      have hE' : ∀ i, i < L.length → kErr (L.getD i []) = 0 := fun i hi => hE.out i (by have := HN.out; omega)
      have hkl : k = L.length := by have := HN.out; omega
      subst hkN
      have hM' := hM.out.rd
      rw [hkl] at hM'
      have HM' := Lib.hid hM'; clear hM' hM
      by_cases hmn : m = L.length
      · obtain ⟨e1, e2⟩ := fill_ok hN8 hE'
        rw [← hmn] at e1 e2
        rw [← hmn] at HM'
        have hmk : m = k := by omega
        subst hmk
        have HT := Lib.hid (fun v w h => KTable_any v (fillT L m) m L 0 e2.symm e1.symm w h)
        clear e1 e2 hmn hkl hE' hE hN8 hlt hk
        go_wp2_with fail
        refine (HT.out _ _ HM'.out).mono ?_
        rintro e w4 ⟨x1, rfl, o1, b⟩
        replace B := B.trans (b.mono B.size)
        have HX := Lib.hid o1; clear b o1
        go_wp2_with fail
        refine (SameT_any x1 v0 L L true (by simp) _ HX.out.rd (H.out.below B)).mono ?_
        rintro e w5 ⟨rfl, b⟩
        replace B := B.trans (b.mono B.size)
        go_wp2
        go_ret
        exact ⟨rfl, B⟩
      · have e50 := fill_no hN8 hE' (n := m) (by omega) hmn
        obtain ⟨T, hT⟩ : ∃ T, T = tabT (fillT L L.length) m := ⟨_, rfl⟩
        have HT := Lib.hid (fun v w h => KTable_any v (fillT L L.length) m T 50 hT e50.symm w h)
        have hne : ((m : Int) != (k : Int)) = true := by rw [bne_iff_ne]; omega
        clear e50 hT hmn hkl hE' hE hN8 hlt hk
        go_wp2_with fail
        refine (HT.out _ _ HM'.out).mono ?_
        rintro e w4 ⟨x1, rfl, o1, b⟩
        replace B := B.trans (b.mono B.size)
        clear b o1
        go_wp2
        go_ret
        exact ⟨rfl, B⟩
end Go.Proofs.Ytnooiiojlkkpeaa
