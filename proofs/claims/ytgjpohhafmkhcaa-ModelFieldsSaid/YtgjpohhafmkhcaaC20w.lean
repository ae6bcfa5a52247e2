/- Contracts of the reference of models: setting a reference. -/
import Derived.Test.YtgjpohhafmkhcaaC20v
set_option linter.unusedVariables false
set_option linter.unusedSimpArgs false
namespace Go.Proofs.Ytgjpohhafmkhcaa
open Go.RowKit L02 L13 L18 L20

set_option maxRecDepth 100000 in
set_option maxHeartbeats 8000000 in
theorem SetRefR20_any (tv ov sv : Value) (m : Mo) (sl g n : Int) (pv : Value) (tt : Option (Int × Int)) (M : Mo) (r : Int) (hM : M = refM m sl g n tt) (hr : r = refE m sl g n tt) (w : World) (h : Mod w tv ov sv m) (hto : PtrH w pv tt) :
    Calls Try.prog 16 #[.agg #[tv, ov, sv], .agg #[.int .i64 sl, .int .i64 g], .int .i64 n, pv] w fun e w' => ∃ t' o' s', e = .returned (.tuple #[.agg #[t', o', s'], .int .i64 r]) ∧ Mod w' t' o' s' M ∧ Below w.heap.size w w' := by
  have B : Below w.heap.size w w := Below.refl _ _
  have H := Lib.hid h
  obtain ⟨kd, hkd⟩ : ∃ kd, kd = kind m sl g n := ⟨_, rfl⟩
  obtain ⟨z, hz⟩ : ∃ z, z = kErrF m sl g n := ⟨_, rfl⟩
  obtain ⟨nm, hnm⟩ : ∃ nm, nm = if kErrF m sl g n = 0 then (own m sl : Int) else 0 := ⟨_, rfl⟩
  have KT := Lib.hid (fun w h => Kind_any tv ov sv m sl g n kd nm z hkd hz hnm w h)
  by_cases h0 : kErrF m sl g n = 0
  · obtain ⟨i, n', o, x0, rfl, hown, ho, hx, hfx, hchk⟩ := fld_ok h0
    have hnm1 : nm = (n' : Int) := by rw [hnm, if_pos h0, hown]
    have HO := Lib.hid (And.intro ho hx)
    have TT := Lib.hid (fun w h => Twin_any tv ov sv m (small_chk hchk) w h)
    rw [h0] at hz
    subst hz; subst hnm1
    by_cases hk : kd.toNat = 3
    · have k3 : ((kd.toNat : Int) != 3) = false := by rw [bne_eq_false_iff_eq]; omega
      cases tt with
      | none =>
        have hr1 : r = 0 := by rw [hr]; unfold refE; rw [if_pos h0, ← hkd, if_pos hk]
        have hM1 : M = putF m n' i 0 := by rw [hM]; unfold refM; rw [← hr, hr1, if_pos rfl, L20.put, hown, Int.toNat_natCast]
        obtain rfl : pv = .pointer none := hto
        subst hr1; subst hM1
        clear hr hM h0 hown ho hx hfx hkd hk h hchk hnm
        go_enter Try.func16, Try.ntmps16
        go_upto_region 1 with (fail)
        refine wp_gen (fun Wv => Bx Wv (w.heap.size) (26) (#[tv, ov, sv]) ∧ Bx Wv (w.heap.size + 1) (28) (#[.int .i64 sl, .int .i64 g]) ∧ Bx Wv (w.heap.size + 1 + 1) (26) (#[.slice none 0 0, .slice none 0 0, .slice none 0 0]) ∧ Below w.heap.size w Wv) ⟨((((Bx.at_ (by simp)).alloc _).alloc _)), (((Bx.at_ (by simp)).alloc _)), ((Bx.at_ (by simp))), ((((Below.refl _ w).alloc (by simp <;> omega) _).alloc (by simp <;> omega) _).alloc (by simp <;> omega) _)⟩ ?_
        rintro wa1 ⟨g1, g2, g3, b⟩
        replace B := B.trans (b.mono B.size); clear b
        have c_g1 := g1.cell; have f_g1 := g1.free; have a_g1 := fun o => (g1.alloc o).cell; have d_g1 := fun o o2 => ((g1.alloc o).alloc o2).cell; have e_g1 := fun o => (g1.alloc o).free
        have c_g2 := g2.cell; have f_g2 := g2.free; have a_g2 := fun o => (g2.alloc o).cell; have d_g2 := fun o o2 => ((g2.alloc o).alloc o2).cell; have e_g2 := fun o => (g2.alloc o).free
        have c_g3 := g3.cell; have f_g3 := g3.free; have a_g3 := fun o => (g3.alloc o).cell; have d_g3 := fun o o2 => ((g3.alloc o).alloc o2).cell; have e_g3 := fun o => (g3.alloc o).free
        have hp1 := g3.lt
        have hz1 := B.size
        go_wp2_with fail
        refine (KT.out _ (H.out.below B)).mono ?_
        rintro e wa2 ⟨rfl, b⟩
        try clear c_g1 f_g1 a_g1 d_g1 e_g1
        replace g1 := g1.below b; have c_g1 := g1.cell; have f_g1 := g1.free; have a_g1 := fun o => (g1.alloc o).cell; have d_g1 := fun o o2 => ((g1.alloc o).alloc o2).cell; have e_g1 := fun o => (g1.alloc o).free; try clear c_g2 f_g2 a_g2 d_g2 e_g2
        replace g2 := g2.below b; have c_g2 := g2.cell; have f_g2 := g2.free; have a_g2 := fun o => (g2.alloc o).cell; have d_g2 := fun o o2 => ((g2.alloc o).alloc o2).cell; have e_g2 := fun o => (g2.alloc o).free; try clear c_g3 f_g3 a_g3 d_g3 e_g3
        replace g3 := g3.below b; have c_g3 := g3.cell; have f_g3 := g3.free; have a_g3 := fun o => (g3.alloc o).cell; have d_g3 := fun o o2 => ((g3.alloc o).alloc o2).cell; have e_g3 := fun o => (g3.alloc o).free; replace B := B.trans (b.mono B.size); clear b
        have hzt := B.size; have hpt := g3.lt
        go_wp2_with fail
        refine (TT.out _ (H.out.below B)).mono ?_
        rintro e wa3 ⟨t', o', s', rfl, om, b⟩
        try clear c_g1 f_g1 a_g1 d_g1 e_g1
        replace g1 := g1.below b; have c_g1 := g1.cell; have f_g1 := g1.free; have a_g1 := fun o => (g1.alloc o).cell; have d_g1 := fun o o2 => ((g1.alloc o).alloc o2).cell; have e_g1 := fun o => (g1.alloc o).free; try clear c_g2 f_g2 a_g2 d_g2 e_g2
        replace g2 := g2.below b; have c_g2 := g2.cell; have f_g2 := g2.free; have a_g2 := fun o => (g2.alloc o).cell; have d_g2 := fun o o2 => ((g2.alloc o).alloc o2).cell; have e_g2 := fun o => (g2.alloc o).free; try clear c_g3 f_g3 a_g3 d_g3 e_g3
        replace g3 := g3.below b; have c_g3 := g3.cell; have f_g3 := g3.free; have a_g3 := fun o => (g3.alloc o).cell; have d_g3 := fun o o2 => ((g3.alloc o).alloc o2).cell; have e_g3 := fun o => (g3.alloc o).free; replace B := B.trans (b.mono B.size); clear b
        obtain ⟨⟨tA, tn, tc, rfl⟩, ⟨oA, on, oc, rfl⟩, ⟨sA, sn, sc, rfl⟩⟩ := om.forms
        obtain ⟨ob_, oq, gf, nf, cf, io, m0, m1, hob2, of_, hnf, hix⟩ := om.o.at_ HO.out.1 (by have := (List.getElem?_eq_some_iff.1 HO.out.2).1; omega)
        have hixi := hix i (List.getElem?_eq_some_iff.1 HO.out.2).1
        have hgf := (of_.cell HO.out.1 HO.out.2).2.2
        clear hix hnf m0
        go_upto_region 7 with (fail)
        refine wp_gen (fun Wv => Bx Wv (wa3.heap.size) (26) (#[.slice tA tn tc, .slice oA on oc, .slice sA sn sc]) ∧ Below wa3.heap.size wa3 Wv) ⟨((Bx.at_ (by simp))), ((Below.refl _ wa3).alloc (by simp <;> omega) _)⟩ ?_
        rintro wa4 ⟨g4, b⟩
        try clear c_g1 f_g1 a_g1 d_g1 e_g1
        replace g1 := g1.below b; have c_g1 := g1.cell; have f_g1 := g1.free; have a_g1 := fun o => (g1.alloc o).cell; have d_g1 := fun o o2 => ((g1.alloc o).alloc o2).cell; have e_g1 := fun o => (g1.alloc o).free; try clear c_g2 f_g2 a_g2 d_g2 e_g2
        replace g2 := g2.below b; have c_g2 := g2.cell; have f_g2 := g2.free; have a_g2 := fun o => (g2.alloc o).cell; have d_g2 := fun o o2 => ((g2.alloc o).alloc o2).cell; have e_g2 := fun o => (g2.alloc o).free; try clear c_g3 f_g3 a_g3 d_g3 e_g3
        replace g3 := g3.below b; have c_g3 := g3.cell; have f_g3 := g3.free; have a_g3 := fun o => (g3.alloc o).cell; have d_g3 := fun o o2 => ((g3.alloc o).alloc o2).cell; have e_g3 := fun o => (g3.alloc o).free; replace om := om.below b; replace of_ := of_.below b; replace m1 := cell_later b m1; replace B := B.trans (b.mono B.size); clear b
        have c_g4 := g4.cell; have f_g4 := g4.free; have a_g4 := fun o => (g4.alloc o).cell; have d_g4 := fun o o2 => ((g4.alloc o).alloc o2).cell; have e_g4 := fun o => (g4.alloc o).free
        obtain ⟨f0, f1, _⟩ := of_.cell HO.out.1 HO.out.2
        have hfin := OwnM.storeF om of_ HO.out.1 HO.out.2 0
        have r1 := g1.far (p := ⟨gf, i, none⟩) (by show _ ≠ gf; omega) (.int .u64 (UInt64.toNat 0))
        have r3 := g3.far (p := ⟨gf, i, none⟩) (by show _ ≠ gf; omega) (.int .u64 (UInt64.toNat 0))
        have r4 := g4.far (p := ⟨gf, i, none⟩) (by show _ ≠ gf; omega) (.int .u64 (UInt64.toNat 0))
        have hb3 := B.setCell (p := ⟨gf, i, none⟩) (by show w.heap.size ≤ gf; omega) (.int .u64 (UInt64.toNat 0))
        have HH := Lib.hid (And.intro hfin.1 (And.intro r3 (And.intro r4 hb3)))
        clear hfin r1 r3 r4 hb3
        go_upto_region 9 with (fail)
        refine wp_gen (fun Wv => OwnM Wv wa2.heap.size 67 (.slice tA tn tc) (.slice oA on oc) (.slice sA sn sc) (putF m n' i 0) ∧ Bx Wv (w.heap.size + 1 + 1) 26 #[.slice none 0 0, .slice none 0 0, .slice none 0 0] ∧ Bx Wv wa3.heap.size 26 #[.slice tA tn tc, .slice oA on oc, .slice sA sn sc] ∧ Below w.heap.size w Wv) HH.out ?_
        rintro wz ⟨om2, r3, r4, B2⟩
        clear HH om of_ g1 g2 g3 g4 B m1 f0 f1 c_g1 c_g2 f_g1 f_g2 a_g1 a_g2 d_g1 d_g2 e_g1 e_g2 c_g3 f_g3 a_g3 d_g3 e_g3 c_g4 f_g4 a_g4 d_g4 e_g4
        have c3 := r3.cell; have f3 := r3.free; have c4 := r4.cell
        go_wp2
        refine bodyPost_ret (v := .tuple #[.agg #[.slice tA tn tc, .slice oA on oc, .slice sA sn sc], .int .i64 0]) (by simp [results, Try.results16, go_sem, c3, f3]) rfl ?_
        refine ⟨_, _, _, rfl, (OwnM.set3 om2 r3).rd, ?_⟩
        exact ((B2.setCell (p := ⟨w.heap.size + 1 + 1, 0, none⟩) (by simp; omega) _).setCell (p := ⟨w.heap.size + 1 + 1, 1, none⟩) (by simp; omega) _).setCell (p := ⟨w.heap.size + 1 + 1, 2, none⟩) (by simp; omega) _
      | some t =>
        obtain ⟨tg, rfl, hbt⟩ := hto
        obtain ⟨ta, tb⟩ := t
        dsimp only at hbt
        have g6 := hbt
        have htg := hbt.lt
        by_cases hre : rightErr m.slots ta tb = 0
        · have hr1 : r = 0 := by rw [hr]; unfold refE; rw [if_pos h0, ← hkd, if_pos hk]; exact hre
          obtain ⟨k2, s2, n2, rfl, hs2, hat2, hown2, hn2⟩ := to_ok hchk hre
          have hM1 : M = putF m n' i (UInt64.ofNat (n2 + 1)) := by rw [hM]; unfold refM; rw [← hr, hr1, if_pos rfl, L20.put, hown, Int.toNat_natCast]; show putF m n' i (UInt64.ofNat (own m (k2 : Int) + 1)) = _; rw [hown2]
          have FD := Lib.hid (fun w h => RightR_any sv m.slots k2 tb 0 hre.symm w h)
          obtain ⟨y, hy⟩ : ∃ y, y = UInt64.ofNat (n2 + 1) := ⟨_, rfl⟩
          rw [← hy] at hM1
          have hyn : (y.toNat : Int) = (n2 : Int) + 1 := by rw [hy, UInt64.toNat_ofNat', Nat.mod_eq_of_lt (by omega)]; rfl
          obtain ⟨sb, sq, s3, ia, k0, k1, k2', hs3⟩ := h.s.at_ (P := Try.prog) Try.underlying24 size_slot (k := k2) (List.getElem?_eq_some_iff.1 hs2).1
          obtain rfl : s3 = s2 := by have := hs3.out; rw [hs2] at this; injection this with e; exact e.symm
          rw [hat2] at k2'
          subst hr1; subst hM1
          have HK2 := Lib.hid k2'
          clear hr hM h0 hown ho hx hfx hkd hk h hchk hre hown2 hy hs2 hnm k0 k1 k2' hs3 hbt
          go_enter Try.func16, Try.ntmps16
          go_upto_region 1 with (fail)
          refine wp_gen (fun Wv => Bx Wv (w.heap.size) (26) (#[tv, ov, sv]) ∧ Bx Wv (w.heap.size + 1) (28) (#[.int .i64 sl, .int .i64 g]) ∧ Bx Wv (w.heap.size + 1 + 1) (26) (#[.slice none 0 0, .slice none 0 0, .slice none 0 0]) ∧ Below w.heap.size w Wv) ⟨((((Bx.at_ (by simp)).alloc _).alloc _)), (((Bx.at_ (by simp)).alloc _)), ((Bx.at_ (by simp))), ((((Below.refl _ w).alloc (by simp <;> omega) _).alloc (by simp <;> omega) _).alloc (by simp <;> omega) _)⟩ ?_
          rintro wa1 ⟨g1, g2, g3, b⟩
          try clear c_g6 f_g6 a_g6 d_g6 e_g6
          replace g6 := g6.below b; have c_g6 := g6.cell; have f_g6 := g6.free; have a_g6 := fun o => (g6.alloc o).cell; have d_g6 := fun o o2 => ((g6.alloc o).alloc o2).cell; have e_g6 := fun o => (g6.alloc o).free; replace B := B.trans (b.mono B.size); clear b
          have c_g1 := g1.cell; have f_g1 := g1.free; have a_g1 := fun o => (g1.alloc o).cell; have d_g1 := fun o o2 => ((g1.alloc o).alloc o2).cell; have e_g1 := fun o => (g1.alloc o).free
          have c_g2 := g2.cell; have f_g2 := g2.free; have a_g2 := fun o => (g2.alloc o).cell; have d_g2 := fun o o2 => ((g2.alloc o).alloc o2).cell; have e_g2 := fun o => (g2.alloc o).free
          have c_g3 := g3.cell; have f_g3 := g3.free; have a_g3 := fun o => (g3.alloc o).cell; have d_g3 := fun o o2 => ((g3.alloc o).alloc o2).cell; have e_g3 := fun o => (g3.alloc o).free
          have hp1 := g3.lt
          have hz1 := B.size
          go_wp2_with fail
          refine (KT.out _ (H.out.below B)).mono ?_
          rintro e wa2 ⟨rfl, b⟩
          try clear c_g6 f_g6 a_g6 d_g6 e_g6
          replace g6 := g6.below b; have c_g6 := g6.cell; have f_g6 := g6.free; have a_g6 := fun o => (g6.alloc o).cell; have d_g6 := fun o o2 => ((g6.alloc o).alloc o2).cell; have e_g6 := fun o => (g6.alloc o).free; try clear c_g1 f_g1 a_g1 d_g1 e_g1
          replace g1 := g1.below b; have c_g1 := g1.cell; have f_g1 := g1.free; have a_g1 := fun o => (g1.alloc o).cell; have d_g1 := fun o o2 => ((g1.alloc o).alloc o2).cell; have e_g1 := fun o => (g1.alloc o).free; try clear c_g2 f_g2 a_g2 d_g2 e_g2
          replace g2 := g2.below b; have c_g2 := g2.cell; have f_g2 := g2.free; have a_g2 := fun o => (g2.alloc o).cell; have d_g2 := fun o o2 => ((g2.alloc o).alloc o2).cell; have e_g2 := fun o => (g2.alloc o).free; try clear c_g3 f_g3 a_g3 d_g3 e_g3
          replace g3 := g3.below b; have c_g3 := g3.cell; have f_g3 := g3.free; have a_g3 := fun o => (g3.alloc o).cell; have d_g3 := fun o o2 => ((g3.alloc o).alloc o2).cell; have e_g3 := fun o => (g3.alloc o).free; replace B := B.trans (b.mono B.size); clear b
          have hzt := B.size; have hpt := g3.lt
          go_wp2_with fail
          refine (TT.out _ (H.out.below B)).mono ?_
          rintro e wa3 ⟨t', o', s', rfl, om, b⟩
          try clear c_g6 f_g6 a_g6 d_g6 e_g6
          replace g6 := g6.below b; have c_g6 := g6.cell; have f_g6 := g6.free; have a_g6 := fun o => (g6.alloc o).cell; have d_g6 := fun o o2 => ((g6.alloc o).alloc o2).cell; have e_g6 := fun o => (g6.alloc o).free; try clear c_g1 f_g1 a_g1 d_g1 e_g1
          replace g1 := g1.below b; have c_g1 := g1.cell; have f_g1 := g1.free; have a_g1 := fun o => (g1.alloc o).cell; have d_g1 := fun o o2 => ((g1.alloc o).alloc o2).cell; have e_g1 := fun o => (g1.alloc o).free; try clear c_g2 f_g2 a_g2 d_g2 e_g2
          replace g2 := g2.below b; have c_g2 := g2.cell; have f_g2 := g2.free; have a_g2 := fun o => (g2.alloc o).cell; have d_g2 := fun o o2 => ((g2.alloc o).alloc o2).cell; have e_g2 := fun o => (g2.alloc o).free; try clear c_g3 f_g3 a_g3 d_g3 e_g3
          replace g3 := g3.below b; have c_g3 := g3.cell; have f_g3 := g3.free; have a_g3 := fun o => (g3.alloc o).cell; have d_g3 := fun o o2 => ((g3.alloc o).alloc o2).cell; have e_g3 := fun o => (g3.alloc o).free; replace B := B.trans (b.mono B.size); clear b
          obtain ⟨⟨tA, tn, tc, rfl⟩, ⟨oA, on, oc, rfl⟩, ⟨sA, sn, sc, rfl⟩⟩ := om.forms
          obtain ⟨ob_, oq, gf, nf, cf, io, m0, m1, hob2, of_, hnf, hix⟩ := om.o.at_ HO.out.1 (by have := (List.getElem?_eq_some_iff.1 HO.out.2).1; omega)
          have hixi := hix i (List.getElem?_eq_some_iff.1 HO.out.2).1
          have hgf := (of_.cell HO.out.1 HO.out.2).2.2
          clear hix hnf m0
          go_upto_region 7 with (fail)
          refine wp_gen (fun Wv => Bx Wv (wa3.heap.size) (26) (#[.slice tA tn tc, .slice oA on oc, .slice sA sn sc]) ∧ Below wa3.heap.size wa3 Wv) ⟨((Bx.at_ (by simp))), ((Below.refl _ wa3).alloc (by simp <;> omega) _)⟩ ?_
          rintro wa4 ⟨g4, b⟩
          try clear c_g1 f_g1 a_g1 d_g1 e_g1
          replace g1 := g1.below b; have c_g1 := g1.cell; have f_g1 := g1.free; have a_g1 := fun o => (g1.alloc o).cell; have d_g1 := fun o o2 => ((g1.alloc o).alloc o2).cell; have e_g1 := fun o => (g1.alloc o).free; try clear c_g2 f_g2 a_g2 d_g2 e_g2
          replace g2 := g2.below b; have c_g2 := g2.cell; have f_g2 := g2.free; have a_g2 := fun o => (g2.alloc o).cell; have d_g2 := fun o o2 => ((g2.alloc o).alloc o2).cell; have e_g2 := fun o => (g2.alloc o).free; try clear c_g3 f_g3 a_g3 d_g3 e_g3
          replace g3 := g3.below b; have c_g3 := g3.cell; have f_g3 := g3.free; have a_g3 := fun o => (g3.alloc o).cell; have d_g3 := fun o o2 => ((g3.alloc o).alloc o2).cell; have e_g3 := fun o => (g3.alloc o).free; try clear c_g6 f_g6 a_g6 d_g6 e_g6
          replace g6 := g6.below b; have c_g6 := g6.cell; have f_g6 := g6.free; have a_g6 := fun o => (g6.alloc o).cell; have d_g6 := fun o o2 => ((g6.alloc o).alloc o2).cell; have e_g6 := fun o => (g6.alloc o).free; replace om := om.below b; replace of_ := of_.below b; replace m1 := cell_later b m1; replace B := B.trans (b.mono B.size); clear b
          have c_g4 := g4.cell; have f_g4 := g4.free; have a_g4 := fun o => (g4.alloc o).cell; have d_g4 := fun o o2 => ((g4.alloc o).alloc o2).cell; have e_g4 := fun o => (g4.alloc o).free
          obtain ⟨f0, f1, _⟩ := of_.cell HO.out.1 HO.out.2
          have HC := Lib.hid (fun z : Fut wa4 => H.out.s.below (B.trans (z.h.mono B.size)))
          go_upto_region 10 with (fail)
          refine wp_region_calm (by kernel_rfl) (by kernel_rfl) ?_
          try clear c_g1 f_g1 a_g1 d_g1 e_g1
          have c_g1 := fun x : Fut _ => (g1.below x.h).cell
          try clear c_g2 f_g2 a_g2 d_g2 e_g2
          have c_g2 := fun x : Fut _ => (g2.below x.h).cell
          try clear c_g3 f_g3 a_g3 d_g3 e_g3
          have c_g3 := fun x : Fut _ => (g3.below x.h).cell
          try clear c_g6 f_g6 a_g6 d_g6 e_g6
          have c_g6 := fun x : Fut _ => (g6.below x.h).cell
          try clear c_g4 f_g4 a_g4 d_g4 e_g4
          have c_g4 := fun x : Fut _ => (g4.below x.h).cell
          have c_m1 := fun x : Fut _ => cell_later x.h m1
          repeat (go_big_quiet_step (exact Fut.call (FD.out _ (HC.out _))))
          refine wpQuiet_nil ?_
          intro _ hw'
          obtain ⟨xq, hw''⟩ := hw'
          subst hw''
          clear c_g1; replace g1 := g1.below xq.h; have c_g1 := g1.cell; have f_g1 := g1.free; have a_g1 := fun o => (g1.alloc o).cell; have d_g1 := fun o o2 => ((g1.alloc o).alloc o2).cell; have e_g1 := fun o => (g1.alloc o).free
          clear c_g2; replace g2 := g2.below xq.h; have c_g2 := g2.cell; have f_g2 := g2.free; have a_g2 := fun o => (g2.alloc o).cell; have d_g2 := fun o o2 => ((g2.alloc o).alloc o2).cell; have e_g2 := fun o => (g2.alloc o).free
          clear c_g3; replace g3 := g3.below xq.h; have c_g3 := g3.cell; have f_g3 := g3.free; have a_g3 := fun o => (g3.alloc o).cell; have d_g3 := fun o o2 => ((g3.alloc o).alloc o2).cell; have e_g3 := fun o => (g3.alloc o).free
          clear c_g6; replace g6 := g6.below xq.h; have c_g6 := g6.cell; have f_g6 := g6.free; have a_g6 := fun o => (g6.alloc o).cell; have d_g6 := fun o o2 => ((g6.alloc o).alloc o2).cell; have e_g6 := fun o => (g6.alloc o).free
          replace om := om.below xq.h
          replace of_ := of_.below xq.h
          clear c_m1; replace m1 := cell_later xq.h m1
          clear c_g4; replace g4 := g4.below xq.h; have c_g4 := g4.cell; have f_g4 := g4.free; have a_g4 := fun o => (g4.alloc o).cell; have d_g4 := fun o o2 => ((g4.alloc o).alloc o2).cell; have e_g4 := fun o => (g4.alloc o).free
          replace B := B.trans (xq.h.mono B.size)
          go_upto_region 13 with (fail)
          obtain ⟨f0, f1, _⟩ := of_.cell HO.out.1 HO.out.2
          have hw1 : IntKind.i64.wrap ((n2 : Int) + 1) = (n2 : Int) + 1 := IntWalk.i64_in _ (by omega)
          have hw2 : IntKind.u64.wrap ((n2 : Int) + 1) = (n2 : Int) + 1 := by show ((n2 : Int) + 1) % 18446744073709551616 = _; omega
          have hobf : ob_ ≠ gf := by
            intro e
            subst e
            obtain ⟨vs, nf', cf', _, a2, a4, _, a6⟩ := of_
            have hr := a4 n' _ _ a6 HO.out.1
            obtain ⟨gO, cO, curO, eO, _⟩ := own_form a2 (by have := (List.getElem?_eq_some_iff.1 HO.out.1).1; omega)
            rw [eO] at a2
            have hne := own_unlike a2 hr (by decide)
            have hix := io xq.W
            rw [eO] at hix
            have := Rd.ixN (P := Try.prog) (Rd.of_own a2) Try.underlying23 size_obj (List.getElem?_eq_some_iff.1 HO.out.1).1 xq.W
            rw [this] at hix
            simp [cellAt] at hix
            rcases hne with h | h
            · simp [Value.ownBlock] at h
            · exact h (by simp [Value.ownBlock, hix.1])
          have AL : ∀ d, d ≤ 1 → Below w.heap.size w ((wsR xq.W gf i ((n2 : Int) + 1)) d) ∧ Bx ((wsR xq.W gf i ((n2 : Int) + 1)) d) w.heap.size 26 #[tv, ov, sv] ∧ Bx ((wsR xq.W gf i ((n2 : Int) + 1)) d) tg 28 #[.int .i64 (k2 : Int), .int .i64 tb] ∧ Bx ((wsR xq.W gf i ((n2 : Int) + 1)) d) wa3.heap.size 26 #[.slice tA tn tc, .slice oA on oc, .slice sA sn sc] ∧ ((wsR xq.W gf i ((n2 : Int) + 1)) d).cell? ⟨ob_, oq + 1, none⟩ = some (.slice (some ⟨gf, 0, none⟩) nf cf) := by
            intro d hd
            rcases d with _ | d
            · exact ⟨B.drew, g1, g6, g4, m1⟩
            · exact ⟨(B.drew).setCell (p := ⟨gf, i, none⟩) (by show w.heap.size ≤ gf; omega) _, (show Bx xq.W.drew _ _ _ from g1).far (p := ⟨gf, i, none⟩) (by show _ ≠ gf; omega) _, (show Bx xq.W.drew _ _ _ from g6).far (p := ⟨gf, i, none⟩) (by show _ ≠ gf; omega) _, (show Bx xq.W.drew _ _ _ from g4).far (p := ⟨gf, i, none⟩) (by show _ ≠ gf; omega) _, cell_far (show xq.W.drew.cell? _ = _ from m1) hobf⟩
          have AA := Lib.hid (fun x : FXN (FL [19] (wsR xq.W gf i ((n2 : Int) + 1)) 19 1) => FL.all (ks := [19]) (Ws := (wsR xq.W gf i ((n2 : Int) + 1))) (p := fun W => Below w.heap.size w W ∧ Bx W w.heap.size 26 #[tv, ov, sv] ∧ Bx W tg 28 #[.int .i64 (k2 : Int), .int .i64 tb] ∧ Bx W wa3.heap.size 26 #[.slice tA tn tc, .slice oA on oc, .slice sA sn sc] ∧ W.cell? ⟨ob_, oq + 1, none⟩ = some (.slice (some ⟨gf, 0, none⟩) nf cf)) AL x)
          have ca := fun x : FXN (FL [19] (wsR xq.W gf i ((n2 : Int) + 1)) 19 1) => (AA.out x).2.1.cell
          have cb := fun x : FXN (FL [19] (wsR xq.W gf i ((n2 : Int) + 1)) 19 1) => (AA.out x).2.2.1.cell
          have cd := fun x : FXN (FL [19] (wsR xq.W gf i ((n2 : Int) + 1)) 19 1) => (AA.out x).2.2.2.1.cell
          have ce := fun x : FXN (FL [19] (wsR xq.W gf i ((n2 : Int) + 1)) 19 1) => (AA.out x).2.2.2.2
          have cc := fun x : FXN (FL [19] (wsR xq.W gf i ((n2 : Int) + 1)) 19 1) => cell_later (AA.out x).1 HK2.out
          haveI : Nonempty (FXN (FL [19] (wsR xq.W gf i ((n2 : Int) + 1)) 19 1)) := ⟨⟨_, _, FL.start⟩⟩
          clear c_g1 f_g1 a_g1 d_g1 e_g1 c_g6 f_g6 a_g6 d_g6 e_g6 c_g3 f_g3 a_g3 d_g3 e_g3 c_g4 f_g4 a_g4 d_g4 e_g4 c_g2 f_g2 a_g2 d_g2 e_g2
          refine wp_region_N (FL [19] (wsR xq.W gf i ((n2 : Int) + 1)) 19 1) [19, 19] FL.dep (by kernel_rfl) (by kernel_rfl) (by kernel_rfl) FL.start ?_
          iterate 10 (refine wpN_read FL.dep rfl (by decide) ?_; go_big_quiet_step (fail); refine wpQuiet_nil ?_)
          refine wpN_pure FL.dep (by decide) rfl (v := .pointer (some ⟨tg, 0, none⟩)) (fun W => by simp [execOp, Act.eval, go_sem]) ?_
          simp only [Act.put, List.setIfInBounds_toArray, List.set_cons_zero, List.set_cons_succ]
          iterate 8 (refine wpN_read FL.dep rfl (by decide) ?_; go_big_quiet_step (fail); refine wpQuiet_nil ?_)
          refine wpN_storeD FL.dep rfl 29 (.tmp 71) (.tmp 70) rfl (by rfl) (p := .pointer (some ⟨gf, i, none⟩)) (u := .int .u64 ((n2 : Int) + 1)) (by rfl) (by rfl) [] (by kernel_rfl) (fun f W hF h0 h1 => ?_) ?_
          · obtain ⟨rfl, h2⟩ := FL.step (i := 0) rfl (by decide) hF h0 (by intro p hp; omega) (by omega)
            refine ⟨_, ?_, h2⟩
            exact store_int (by kernel_rfl) xq.W.drew _ _ _ _ f0 f1
          show ∀ w', _ → _
          intro w' hw'
          obtain rfl := FL.done hw'
          have hfin := OwnM.storeF (w := xq.W.drew) ⟨om.t, om.o, om.s⟩ (show OwnF xq.W.drew _ _ _ _ _ from of_) HO.out.1 HO.out.2 y
          rw [hyn] at hfin
          have r3 := (show Bx xq.W.drew _ _ _ from g3).far (p := ⟨gf, i, none⟩) (by show _ ≠ gf; omega) (.int .u64 ((n2 : Int) + 1))
          have r4 := (show Bx xq.W.drew _ _ _ from g4).far (p := ⟨gf, i, none⟩) (by show _ ≠ gf; omega) (.int .u64 ((n2 : Int) + 1))
          have hb3 := (B.drew).setCell (p := ⟨gf, i, none⟩) (by show w.heap.size ≤ gf; omega) (.int .u64 ((n2 : Int) + 1))
          have HH := Lib.hid (And.intro hfin.1 (And.intro r3 (And.intro r4 hb3)))
          clear this ca cb cc cd ce AA AL hfin r3 r4 hb3 om of_ g1 g2 g3 g4 g6 B f0 f1 m1 hw' hw1 hw2
          go_upto_region 14 with (fail)
          refine wp_gen (fun Wv => OwnM Wv wa2.heap.size 67 (.slice tA tn tc) (.slice oA on oc) (.slice sA sn sc) (putF m n' i y) ∧ Bx Wv (w.heap.size + 1 + 1) 26 #[.slice none 0 0, .slice none 0 0, .slice none 0 0] ∧ Bx Wv wa3.heap.size 26 #[.slice tA tn tc, .slice oA on oc, .slice sA sn sc] ∧ Below w.heap.size w Wv) HH.out ?_
          rintro wy ⟨om3, r3, r4, B3⟩
          have c3 := r3.cell; have f3 := r3.free; have c4 := r4.cell
          go_wp2
          refine bodyPost_ret (v := .tuple #[.agg #[.slice tA tn tc, .slice oA on oc, .slice sA sn sc], .int .i64 0]) (by simp [results, Try.results16, go_sem, c3, f3]) rfl ?_
          refine ⟨_, _, _, rfl, (OwnM.set3 om3 r3).rd, ?_⟩
          exact ((B3.setCell (p := ⟨w.heap.size + 1 + 1, 0, none⟩) (by simp; omega) _).setCell (p := ⟨w.heap.size + 1 + 1, 1, none⟩) (by simp; omega) _).setCell (p := ⟨w.heap.size + 1 + 1, 2, none⟩) (by simp; omega) _
        · obtain ⟨z, hz⟩ : ∃ z, z = rightErr m.slots ta tb := ⟨_, rfl⟩
          have hr1 : r = z := by rw [hr]; unfold refE; rw [if_pos h0, ← hkd, if_pos hk, hz]
          have hM1 : M = .nil := by rw [hM]; unfold refM; rw [← hr, hr1, hz, if_neg hre]
          have FD := Lib.hid (fun w h => RightR_any sv m.slots ta tb z hz w h)
          have hne : (z != 0) = true := by rw [bne_iff_ne, hz]; exact hre
          subst hr1; subst hM1
          clear hr hM h0 hown ho hx hfx hkd hk h hchk hre hz hnm hbt
          go_enter Try.func16, Try.ntmps16
          go_upto_region 1 with (fail)
          refine wp_gen (fun Wv => Bx Wv (w.heap.size) (26) (#[tv, ov, sv]) ∧ Bx Wv (w.heap.size + 1) (28) (#[.int .i64 sl, .int .i64 g]) ∧ Bx Wv (w.heap.size + 1 + 1) (26) (#[.slice none 0 0, .slice none 0 0, .slice none 0 0]) ∧ Below w.heap.size w Wv) ⟨((((Bx.at_ (by simp)).alloc _).alloc _)), (((Bx.at_ (by simp)).alloc _)), ((Bx.at_ (by simp))), ((((Below.refl _ w).alloc (by simp <;> omega) _).alloc (by simp <;> omega) _).alloc (by simp <;> omega) _)⟩ ?_
          rintro wa1 ⟨g1, g2, g3, b⟩
          try clear c_g6 f_g6 a_g6 d_g6 e_g6
          replace g6 := g6.below b; have c_g6 := g6.cell; have f_g6 := g6.free; have a_g6 := fun o => (g6.alloc o).cell; have d_g6 := fun o o2 => ((g6.alloc o).alloc o2).cell; have e_g6 := fun o => (g6.alloc o).free; replace B := B.trans (b.mono B.size); clear b
          have c_g1 := g1.cell; have f_g1 := g1.free; have a_g1 := fun o => (g1.alloc o).cell; have d_g1 := fun o o2 => ((g1.alloc o).alloc o2).cell; have e_g1 := fun o => (g1.alloc o).free
          have c_g2 := g2.cell; have f_g2 := g2.free; have a_g2 := fun o => (g2.alloc o).cell; have d_g2 := fun o o2 => ((g2.alloc o).alloc o2).cell; have e_g2 := fun o => (g2.alloc o).free
          have c_g3 := g3.cell; have f_g3 := g3.free; have a_g3 := fun o => (g3.alloc o).cell; have d_g3 := fun o o2 => ((g3.alloc o).alloc o2).cell; have e_g3 := fun o => (g3.alloc o).free
          have hp1 := g3.lt
          have hz1 := B.size
          go_wp2_with fail
          refine (KT.out _ (H.out.below B)).mono ?_
          rintro e wa2 ⟨rfl, b⟩
          try clear c_g6 f_g6 a_g6 d_g6 e_g6
          replace g6 := g6.below b; have c_g6 := g6.cell; have f_g6 := g6.free; have a_g6 := fun o => (g6.alloc o).cell; have d_g6 := fun o o2 => ((g6.alloc o).alloc o2).cell; have e_g6 := fun o => (g6.alloc o).free; try clear c_g1 f_g1 a_g1 d_g1 e_g1
          replace g1 := g1.below b; have c_g1 := g1.cell; have f_g1 := g1.free; have a_g1 := fun o => (g1.alloc o).cell; have d_g1 := fun o o2 => ((g1.alloc o).alloc o2).cell; have e_g1 := fun o => (g1.alloc o).free; try clear c_g2 f_g2 a_g2 d_g2 e_g2
          replace g2 := g2.below b; have c_g2 := g2.cell; have f_g2 := g2.free; have a_g2 := fun o => (g2.alloc o).cell; have d_g2 := fun o o2 => ((g2.alloc o).alloc o2).cell; have e_g2 := fun o => (g2.alloc o).free; try clear c_g3 f_g3 a_g3 d_g3 e_g3
          replace g3 := g3.below b; have c_g3 := g3.cell; have f_g3 := g3.free; have a_g3 := fun o => (g3.alloc o).cell; have d_g3 := fun o o2 => ((g3.alloc o).alloc o2).cell; have e_g3 := fun o => (g3.alloc o).free; replace B := B.trans (b.mono B.size); clear b
          have hzt := B.size; have hpt := g3.lt
          go_wp2_with fail
          refine (TT.out _ (H.out.below B)).mono ?_
          rintro e wa3 ⟨t', o', s', rfl, om, b⟩
          try clear c_g6 f_g6 a_g6 d_g6 e_g6
          replace g6 := g6.below b; have c_g6 := g6.cell; have f_g6 := g6.free; have a_g6 := fun o => (g6.alloc o).cell; have d_g6 := fun o o2 => ((g6.alloc o).alloc o2).cell; have e_g6 := fun o => (g6.alloc o).free; try clear c_g1 f_g1 a_g1 d_g1 e_g1
          replace g1 := g1.below b; have c_g1 := g1.cell; have f_g1 := g1.free; have a_g1 := fun o => (g1.alloc o).cell; have d_g1 := fun o o2 => ((g1.alloc o).alloc o2).cell; have e_g1 := fun o => (g1.alloc o).free; try clear c_g2 f_g2 a_g2 d_g2 e_g2
          replace g2 := g2.below b; have c_g2 := g2.cell; have f_g2 := g2.free; have a_g2 := fun o => (g2.alloc o).cell; have d_g2 := fun o o2 => ((g2.alloc o).alloc o2).cell; have e_g2 := fun o => (g2.alloc o).free; try clear c_g3 f_g3 a_g3 d_g3 e_g3
          replace g3 := g3.below b; have c_g3 := g3.cell; have f_g3 := g3.free; have a_g3 := fun o => (g3.alloc o).cell; have d_g3 := fun o o2 => ((g3.alloc o).alloc o2).cell; have e_g3 := fun o => (g3.alloc o).free; replace B := B.trans (b.mono B.size); clear b
          obtain ⟨⟨tA, tn, tc, rfl⟩, ⟨oA, on, oc, rfl⟩, ⟨sA, sn, sc, rfl⟩⟩ := om.forms
          obtain ⟨ob_, oq, gf, nf, cf, io, m0, m1, hob2, of_, hnf, hix⟩ := om.o.at_ HO.out.1 (by have := (List.getElem?_eq_some_iff.1 HO.out.2).1; omega)
          have hixi := hix i (List.getElem?_eq_some_iff.1 HO.out.2).1
          have hgf := (of_.cell HO.out.1 HO.out.2).2.2
          clear hix hnf m0
          go_upto_region 7 with (fail)
          refine wp_gen (fun Wv => Bx Wv (wa3.heap.size) (26) (#[.slice tA tn tc, .slice oA on oc, .slice sA sn sc]) ∧ Below wa3.heap.size wa3 Wv) ⟨((Bx.at_ (by simp))), ((Below.refl _ wa3).alloc (by simp <;> omega) _)⟩ ?_
          rintro wa4 ⟨g4, b⟩
          try clear c_g1 f_g1 a_g1 d_g1 e_g1
          replace g1 := g1.below b; have c_g1 := g1.cell; have f_g1 := g1.free; have a_g1 := fun o => (g1.alloc o).cell; have d_g1 := fun o o2 => ((g1.alloc o).alloc o2).cell; have e_g1 := fun o => (g1.alloc o).free; try clear c_g2 f_g2 a_g2 d_g2 e_g2
          replace g2 := g2.below b; have c_g2 := g2.cell; have f_g2 := g2.free; have a_g2 := fun o => (g2.alloc o).cell; have d_g2 := fun o o2 => ((g2.alloc o).alloc o2).cell; have e_g2 := fun o => (g2.alloc o).free; try clear c_g3 f_g3 a_g3 d_g3 e_g3
          replace g3 := g3.below b; have c_g3 := g3.cell; have f_g3 := g3.free; have a_g3 := fun o => (g3.alloc o).cell; have d_g3 := fun o o2 => ((g3.alloc o).alloc o2).cell; have e_g3 := fun o => (g3.alloc o).free; try clear c_g6 f_g6 a_g6 d_g6 e_g6
          replace g6 := g6.below b; have c_g6 := g6.cell; have f_g6 := g6.free; have a_g6 := fun o => (g6.alloc o).cell; have d_g6 := fun o o2 => ((g6.alloc o).alloc o2).cell; have e_g6 := fun o => (g6.alloc o).free; replace om := om.below b; replace of_ := of_.below b; replace m1 := cell_later b m1; replace B := B.trans (b.mono B.size); clear b
          have c_g4 := g4.cell; have f_g4 := g4.free; have a_g4 := fun o => (g4.alloc o).cell; have d_g4 := fun o o2 => ((g4.alloc o).alloc o2).cell; have e_g4 := fun o => (g4.alloc o).free
          obtain ⟨f0, f1, _⟩ := of_.cell HO.out.1 HO.out.2
          have HC := Lib.hid (fun z : Fut wa4 => H.out.s.below (B.trans (z.h.mono B.size)))
          go_upto_region 10 with (fail)
          refine wp_region_calm (by kernel_rfl) (by kernel_rfl) ?_
          try clear c_g1 f_g1 a_g1 d_g1 e_g1
          have c_g1 := fun x : Fut _ => (g1.below x.h).cell
          try clear c_g2 f_g2 a_g2 d_g2 e_g2
          have c_g2 := fun x : Fut _ => (g2.below x.h).cell
          try clear c_g3 f_g3 a_g3 d_g3 e_g3
          have c_g3 := fun x : Fut _ => (g3.below x.h).cell
          try clear c_g6 f_g6 a_g6 d_g6 e_g6
          have c_g6 := fun x : Fut _ => (g6.below x.h).cell
          try clear c_g4 f_g4 a_g4 d_g4 e_g4
          have c_g4 := fun x : Fut _ => (g4.below x.h).cell
          have c_m1 := fun x : Fut _ => cell_later x.h m1
          repeat (go_big_quiet_step (exact Fut.call (FD.out _ (HC.out _))))
          refine wpQuiet_nil ?_
          intro _ hw'
          obtain ⟨xq, hw''⟩ := hw'
          subst hw''
          clear c_g1; replace g1 := g1.below xq.h; have c_g1 := g1.cell; have f_g1 := g1.free; have a_g1 := fun o => (g1.alloc o).cell; have d_g1 := fun o o2 => ((g1.alloc o).alloc o2).cell; have e_g1 := fun o => (g1.alloc o).free
          clear c_g2; replace g2 := g2.below xq.h; have c_g2 := g2.cell; have f_g2 := g2.free; have a_g2 := fun o => (g2.alloc o).cell; have d_g2 := fun o o2 => ((g2.alloc o).alloc o2).cell; have e_g2 := fun o => (g2.alloc o).free
          clear c_g3; replace g3 := g3.below xq.h; have c_g3 := g3.cell; have f_g3 := g3.free; have a_g3 := fun o => (g3.alloc o).cell; have d_g3 := fun o o2 => ((g3.alloc o).alloc o2).cell; have e_g3 := fun o => (g3.alloc o).free
          clear c_g6; replace g6 := g6.below xq.h; have c_g6 := g6.cell; have f_g6 := g6.free; have a_g6 := fun o => (g6.alloc o).cell; have d_g6 := fun o o2 => ((g6.alloc o).alloc o2).cell; have e_g6 := fun o => (g6.alloc o).free
          replace om := om.below xq.h
          replace of_ := of_.below xq.h
          clear c_m1; replace m1 := cell_later xq.h m1
          clear c_g4; replace g4 := g4.below xq.h; have c_g4 := g4.cell; have f_g4 := g4.free; have a_g4 := fun o => (g4.alloc o).cell; have d_g4 := fun o o2 => ((g4.alloc o).alloc o2).cell; have e_g4 := fun o => (g4.alloc o).free
          replace B := B.trans (xq.h.mono B.size)
          go_wp2
          refine bodyPost_ret (v := .tuple #[.agg #[.slice none 0 0, .slice none 0 0, .slice none 0 0], .int .i64 r]) (by simp [results, Try.results16, go_sem, c_g3, f_g3]) rfl ?_
          refine ⟨_, _, _, rfl, Mod.nil _, ?_⟩
          exact ((B.setCell (p := ⟨w.heap.size + 1 + 1, 0, none⟩) (by simp; omega) _).setCell (p := ⟨w.heap.size + 1 + 1, 1, none⟩) (by simp; omega) _).setCell (p := ⟨w.heap.size + 1 + 1, 2, none⟩) (by simp; omega) _
    · have hr1 : r = 42 := by rw [hr]; unfold refE; rw [if_pos h0, ← hkd, if_neg hk]
      have hM1 : M = .nil := by rw [hM]; unfold refM; rw [← hr, hr1]; rfl
      have k3 : ((kd.toNat : Int) != 3) = true := by rw [bne_iff_ne]; omega
      subst hr1; subst hM1
      clear hr hM h0 hown ho hx hfx hkd hk h hchk hto hnm
      go_enter Try.func16, Try.ntmps16
      go_upto_region 1 with (fail)
      refine wp_gen (fun Wv => Bx Wv (w.heap.size) (26) (#[tv, ov, sv]) ∧ Bx Wv (w.heap.size + 1) (28) (#[.int .i64 sl, .int .i64 g]) ∧ Bx Wv (w.heap.size + 1 + 1) (26) (#[.slice none 0 0, .slice none 0 0, .slice none 0 0]) ∧ Below w.heap.size w Wv) ⟨((((Bx.at_ (by simp)).alloc _).alloc _)), (((Bx.at_ (by simp)).alloc _)), ((Bx.at_ (by simp))), ((((Below.refl _ w).alloc (by simp <;> omega) _).alloc (by simp <;> omega) _).alloc (by simp <;> omega) _)⟩ ?_
      rintro wa1 ⟨g1, g2, g3, b⟩
      replace B := B.trans (b.mono B.size); clear b
      have c_g1 := g1.cell; have f_g1 := g1.free; have a_g1 := fun o => (g1.alloc o).cell; have d_g1 := fun o o2 => ((g1.alloc o).alloc o2).cell; have e_g1 := fun o => (g1.alloc o).free
      have c_g2 := g2.cell; have f_g2 := g2.free; have a_g2 := fun o => (g2.alloc o).cell; have d_g2 := fun o o2 => ((g2.alloc o).alloc o2).cell; have e_g2 := fun o => (g2.alloc o).free
      have c_g3 := g3.cell; have f_g3 := g3.free; have a_g3 := fun o => (g3.alloc o).cell; have d_g3 := fun o o2 => ((g3.alloc o).alloc o2).cell; have e_g3 := fun o => (g3.alloc o).free
      have hp1 := g3.lt
      have hz1 := B.size
      go_wp2_with fail
      refine (KT.out _ (H.out.below B)).mono ?_
      rintro e wa2 ⟨rfl, b⟩
      try clear c_g1 f_g1 a_g1 d_g1 e_g1
      replace g1 := g1.below b; have c_g1 := g1.cell; have f_g1 := g1.free; have a_g1 := fun o => (g1.alloc o).cell; have d_g1 := fun o o2 => ((g1.alloc o).alloc o2).cell; have e_g1 := fun o => (g1.alloc o).free; try clear c_g2 f_g2 a_g2 d_g2 e_g2
      replace g2 := g2.below b; have c_g2 := g2.cell; have f_g2 := g2.free; have a_g2 := fun o => (g2.alloc o).cell; have d_g2 := fun o o2 => ((g2.alloc o).alloc o2).cell; have e_g2 := fun o => (g2.alloc o).free; try clear c_g3 f_g3 a_g3 d_g3 e_g3
      replace g3 := g3.below b; have c_g3 := g3.cell; have f_g3 := g3.free; have a_g3 := fun o => (g3.alloc o).cell; have d_g3 := fun o o2 => ((g3.alloc o).alloc o2).cell; have e_g3 := fun o => (g3.alloc o).free; replace B := B.trans (b.mono B.size); clear b
      go_wp2
      refine bodyPost_ret (v := .tuple #[.agg #[.slice none 0 0, .slice none 0 0, .slice none 0 0], .int .i64 42]) (by simp [results, Try.results16, go_sem, c_g3, f_g3]) rfl ?_
      refine ⟨_, _, _, rfl, Mod.nil _, ?_⟩
      (repeat (first | refine Below.setCell ?_ (by first | exact Nat.le_refl _ | (simp <;> omega)) _ | refine Below.alloc ?_ (by first | exact B.size | (have := B.size; simp <;> omega)) _)); exact B
  · have hr1 : r = z := by rw [hr]; unfold refE; rw [if_neg h0, hz]
    have hM1 : M = .nil := by rw [hM]; unfold refM; rw [← hr, hr1, hz, if_neg h0]
    have hne : (z != 0) = true := by rw [bne_iff_ne, hz]; exact h0
    subst hM1; subst hr1
    clear hr hM h0 h hkd hz hto hnm
    go_enter Try.func16, Try.ntmps16
    go_upto_region 1 with (fail)
    refine wp_gen (fun Wv => Bx Wv (w.heap.size) (26) (#[tv, ov, sv]) ∧ Bx Wv (w.heap.size + 1) (28) (#[.int .i64 sl, .int .i64 g]) ∧ Bx Wv (w.heap.size + 1 + 1) (26) (#[.slice none 0 0, .slice none 0 0, .slice none 0 0]) ∧ Below w.heap.size w Wv) ⟨((((Bx.at_ (by simp)).alloc _).alloc _)), (((Bx.at_ (by simp)).alloc _)), ((Bx.at_ (by simp))), ((((Below.refl _ w).alloc (by simp <;> omega) _).alloc (by simp <;> omega) _).alloc (by simp <;> omega) _)⟩ ?_
    rintro wa1 ⟨g1, g2, g3, b⟩
    replace B := B.trans (b.mono B.size); clear b
    have c_g1 := g1.cell; have f_g1 := g1.free; have a_g1 := fun o => (g1.alloc o).cell; have d_g1 := fun o o2 => ((g1.alloc o).alloc o2).cell; have e_g1 := fun o => (g1.alloc o).free
    have c_g2 := g2.cell; have f_g2 := g2.free; have a_g2 := fun o => (g2.alloc o).cell; have d_g2 := fun o o2 => ((g2.alloc o).alloc o2).cell; have e_g2 := fun o => (g2.alloc o).free
    have c_g3 := g3.cell; have f_g3 := g3.free; have a_g3 := fun o => (g3.alloc o).cell; have d_g3 := fun o o2 => ((g3.alloc o).alloc o2).cell; have e_g3 := fun o => (g3.alloc o).free
    have hp1 := g3.lt
    have hz1 := B.size
    go_wp2_with fail
    refine (KT.out _ (H.out.below B)).mono ?_
    rintro e wa2 ⟨rfl, b⟩
    try clear c_g1 f_g1 a_g1 d_g1 e_g1
    replace g1 := g1.below b; have c_g1 := g1.cell; have f_g1 := g1.free; have a_g1 := fun o => (g1.alloc o).cell; have d_g1 := fun o o2 => ((g1.alloc o).alloc o2).cell; have e_g1 := fun o => (g1.alloc o).free; try clear c_g2 f_g2 a_g2 d_g2 e_g2
    replace g2 := g2.below b; have c_g2 := g2.cell; have f_g2 := g2.free; have a_g2 := fun o => (g2.alloc o).cell; have d_g2 := fun o o2 => ((g2.alloc o).alloc o2).cell; have e_g2 := fun o => (g2.alloc o).free; try clear c_g3 f_g3 a_g3 d_g3 e_g3
    replace g3 := g3.below b; have c_g3 := g3.cell; have f_g3 := g3.free; have a_g3 := fun o => (g3.alloc o).cell; have d_g3 := fun o o2 => ((g3.alloc o).alloc o2).cell; have e_g3 := fun o => (g3.alloc o).free; replace B := B.trans (b.mono B.size); clear b
    go_wp2
    refine bodyPost_ret (v := .tuple #[.agg #[.slice none 0 0, .slice none 0 0, .slice none 0 0], .int .i64 r]) (by simp [results, Try.results16, go_sem, c_g3, f_g3]) rfl ?_
    refine ⟨_, _, _, rfl, Mod.nil _, ?_⟩
    (repeat (first | refine Below.setCell ?_ (by first | exact Nat.le_refl _ | (simp <;> omega)) _ | refine Below.alloc ?_ (by first | exact B.size | (have := B.size; simp <;> omega)) _)); exact B
end Go.Proofs.Ytgjpohhafmkhcaa
