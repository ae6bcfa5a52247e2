/- Contracts of the functions that the laws 'N' reach, part 10. No condition. -/
import Derived.Test.YteejianjjpdimaaMNi
set_option linter.unusedVariables false
set_option linter.unusedSimpArgs false
namespace Go.Proofs.Yteejianjjpdimaa
open Go.RowKit L02 L13 L18 L20
theorem putF_obj {m : Mo} {n i : Nat} {o : Ob} {x : UInt64} (ho : m.objs[n]? = some o) : (putF m n i x).objs[n]? = some ⟨o.ty, o.fs.set i x⟩ := by
  have hob : ob m n = o := by simp [ob, List.getD_eq_getElem?_getD, ho]
  show (m.objs.set n _)[n]? = _
  rw [List.getElem?_set_self (List.getElem?_eq_some_iff.1 ho).1, hob]
theorem putF_putF {m : Mo} {n i : Nat} {o : Ob} {x y : UInt64} (ho : m.objs[n]? = some o) : putF (putF m n i x) n i y = putF m n i y := by
  have hob : ob m n = o := by simp [ob, List.getD_eq_getElem?_getD, ho]
  have hob2 : ob (putF m n i x) n = ⟨o.ty, o.fs.set i x⟩ := by simp [ob, List.getD_eq_getElem?_getD, putF_obj ho]
  show (⟨(putF m n i x).types, (putF m n i x).objs.set n ⟨(ob (putF m n i x) n).ty, (ob (putF m n i x) n).fs.set i y⟩, (putF m n i x).slots⟩ : Mo) = ⟨m.types, m.objs.set n ⟨(ob m n).ty, (ob m n).fs.set i y⟩, m.slots⟩
  rw [hob2, hob]
  show (⟨m.types, (m.objs.set n ⟨(ob m n).ty, (ob m n).fs.set i x⟩).set n _, m.slots⟩ : Mo) = _
  rw [List.set_set, List.set_set]
/-- the slot of a right handle -/
theorem to_ok {m : Mo} {sl g : Int} (hc : chk m = 0) (h : rightErr m.slots sl g = 0) : ∃ (k : Nat) (s : Sl) (n : Nat), sl = (k : Int) ∧ m.slots[k]? = some s ∧ s.at_ = (n : Int) ∧ own m sl = n ∧ n < 960 := by
  obtain ⟨h1, h2, h3⟩ := chk_ok hc
  obtain ⟨k, s, rfl, hk, hs, hu, hg⟩ := right_ok h
  have hso := h3.2.2.2 s (List.mem_of_getElem? hs)
  obtain ⟨a1, a2, a3⟩ := hso.2.2 hu
  obtain ⟨n, hn⟩ := Int.eq_ofNat_of_zero_le a2
  exact ⟨k, s, n, rfl, hs, hn, by simp [own, List.getD_eq_getElem?_getD, hs, hn], by omega⟩
def wsR (w : World) (g i : Nat) (x : Int) : Nat → World
  | 0 => w.drew
  | _ => w.drew.setCell ⟨g, i, none⟩ (.int .u64 x)
set_option maxRecDepth 100000 in
set_option maxHeartbeats 8000000 in
theorem SetRef20_own (tv ov sv : Value) (m : Mo) (sl g n : Int) (pv : Value) (tt : Option (Int × Int)) (M : Mo) (r : Int) (hM : M = refM m sl g n tt) (hr : r = refE m sl g n tt) (w : World) (h : Mod w tv ov sv m) (hto : PtrH w pv tt) :
    Calls Try.prog 19 #[.agg #[tv, ov, sv], .agg #[.int .i64 sl, .int .i64 g], .int .i64 n, pv] w fun e w' => ∃ t' o' s', e = .returned (.tuple #[.agg #[t', o', s'], .int .i64 r]) ∧ OwnM w' w.heap.size 48 t' o' s' M ∧ Below w.heap.size w w' := by
  have B : Below w.heap.size w w := Below.refl _ _
  have H := Lib.hid h
  by_cases h0 : kErrF m sl g n = 0
  · obtain ⟨i, n', o, x0, rfl, hown, ho, hx, hfx, hchk⟩ := fld_ok h0
    obtain ⟨kd, hkd⟩ : ∃ kd, kd = kind m sl g i := ⟨_, rfl⟩
    have FT := Lib.hid (fun w h => field_ok tv ov sv m sl g i kd o n' h0 hkd hown ho w h)
    have HO := Lib.hid (And.intro ho hx)
    by_cases hk : kd.toNat = 3
    · have k3 : ((kd.toNat : Int) != 3) = false := by rw [bne_eq_false_iff_eq]; omega
      cases tt with
      | none =>
        have hr1 : r = 0 := by rw [hr]; unfold refE; rw [if_pos h0, ← hkd, if_pos hk]
        have hM1 : M = putF m n' i 0 := by rw [hM]; unfold refM; rw [← hr, hr1, if_pos rfl, L20.put, hown, Int.toNat_natCast]
        obtain rfl : pv = .pointer none := hto
        subst hr1; subst hM1
        clear hr hM h0 hown ho hx hfx hkd hk h hchk
        go_enter Try.func19, Try.ntmps19
        go_upto_region 1 with (fail)
        refine wp_gen (fun Wv => Bx Wv (w.heap.size) (26) (#[tv, ov, sv]) ∧ Bx Wv (w.heap.size + 1) (50) (#[.int .i64 sl, .int .i64 g]) ∧ Bx Wv (w.heap.size + 1 + 1) (26) (#[.slice none 0 0, .slice none 0 0, .slice none 0 0]) ∧ Below w.heap.size w Wv) ⟨((((Bx.at_ (by simp)).alloc _).alloc _)), (((Bx.at_ (by simp)).alloc _)), ((Bx.at_ (by simp))), ((((Below.refl _ w).alloc (by simp <;> omega) _).alloc (by simp <;> omega) _).alloc (by simp <;> omega) _)⟩ ?_
        rintro wa1 ⟨g1, g2, g3, b⟩
        replace B := B.trans (b.mono B.size); clear b
        have c_g1 := g1.cell; have f_g1 := g1.free; have a_g1 := fun o => (g1.alloc o).cell; have d_g1 := fun o o2 => ((g1.alloc o).alloc o2).cell; have e_g1 := fun o => (g1.alloc o).free
        have c_g2 := g2.cell; have f_g2 := g2.free; have a_g2 := fun o => (g2.alloc o).cell; have d_g2 := fun o o2 => ((g2.alloc o).alloc o2).cell; have e_g2 := fun o => (g2.alloc o).free
        have c_g3 := g3.cell; have f_g3 := g3.free; have a_g3 := fun o => (g3.alloc o).cell; have d_g3 := fun o o2 => ((g3.alloc o).alloc o2).cell; have e_g3 := fun o => (g3.alloc o).free
        have hp1 := g3.lt
        have hz1 := B.size
        go_wp2_with fail
        refine (FT.out _ (H.out.below B)).mono ?_
        rintro e wa2 ⟨t', o', s', gf, rfl, om, of_, b⟩
        try clear c_g1 f_g1 a_g1 d_g1 e_g1
        replace g1 := g1.below b; have c_g1 := g1.cell; have f_g1 := g1.free; have a_g1 := fun o => (g1.alloc o).cell; have d_g1 := fun o o2 => ((g1.alloc o).alloc o2).cell; have e_g1 := fun o => (g1.alloc o).free; try clear c_g2 f_g2 a_g2 d_g2 e_g2
        replace g2 := g2.below b; have c_g2 := g2.cell; have f_g2 := g2.free; have a_g2 := fun o => (g2.alloc o).cell; have d_g2 := fun o o2 => ((g2.alloc o).alloc o2).cell; have e_g2 := fun o => (g2.alloc o).free; try clear c_g3 f_g3 a_g3 d_g3 e_g3
        replace g3 := g3.below b; have c_g3 := g3.cell; have f_g3 := g3.free; have a_g3 := fun o => (g3.alloc o).cell; have d_g3 := fun o o2 => ((g3.alloc o).alloc o2).cell; have e_g3 := fun o => (g3.alloc o).free; replace B := B.trans (b.mono B.size); clear b
        obtain ⟨⟨tA, tn, tc, rfl⟩, ⟨oA, on, oc, rfl⟩, ⟨sA, sn, sc, rfl⟩⟩ := om.forms
        have hgf := (of_.cell HO.out.1 HO.out.2).2.2
        go_upto_region 2 with (fail)
        refine wp_gen (fun Wv => Bx Wv (wa2.heap.size) (26) (#[.slice tA tn tc, .slice oA on oc, .slice sA sn sc]) ∧ Below wa2.heap.size wa2 Wv) ⟨((Bx.at_ (by simp))), ((Below.refl _ wa2).alloc (by simp <;> omega) _)⟩ ?_
        rintro wa3 ⟨g4, b⟩
        try clear c_g1 f_g1 a_g1 d_g1 e_g1
        replace g1 := g1.below b; have c_g1 := g1.cell; have f_g1 := g1.free; have a_g1 := fun o => (g1.alloc o).cell; have d_g1 := fun o o2 => ((g1.alloc o).alloc o2).cell; have e_g1 := fun o => (g1.alloc o).free; try clear c_g2 f_g2 a_g2 d_g2 e_g2
        replace g2 := g2.below b; have c_g2 := g2.cell; have f_g2 := g2.free; have a_g2 := fun o => (g2.alloc o).cell; have d_g2 := fun o o2 => ((g2.alloc o).alloc o2).cell; have e_g2 := fun o => (g2.alloc o).free; try clear c_g3 f_g3 a_g3 d_g3 e_g3
        replace g3 := g3.below b; have c_g3 := g3.cell; have f_g3 := g3.free; have a_g3 := fun o => (g3.alloc o).cell; have d_g3 := fun o o2 => ((g3.alloc o).alloc o2).cell; have e_g3 := fun o => (g3.alloc o).free; replace om := om.below b; replace of_ := of_.below b; replace B := B.trans (b.mono B.size); clear b
        have c_g4 := g4.cell; have f_g4 := g4.free; have a_g4 := fun o => (g4.alloc o).cell; have d_g4 := fun o o2 => ((g4.alloc o).alloc o2).cell; have e_g4 := fun o => (g4.alloc o).free
        obtain ⟨m0, f0, _⟩ := of_.cell HO.out.1 HO.out.2
        have hfin := OwnM.storeF om of_ HO.out.1 HO.out.2 0
        have r1 := g1.far (p := ⟨gf, i, none⟩) (by show _ ≠ gf; omega) (.int .u64 (UInt64.toNat 0))
        have r3 := g3.far (p := ⟨gf, i, none⟩) (by show _ ≠ gf; omega) (.int .u64 (UInt64.toNat 0))
        have r4 := g4.far (p := ⟨gf, i, none⟩) (by show _ ≠ gf; omega) (.int .u64 (UInt64.toNat 0))
        have hb3 := B.setCell (p := ⟨gf, i, none⟩) (by show w.heap.size ≤ gf; omega) (.int .u64 (UInt64.toNat 0))
        have HH := Lib.hid (And.intro hfin.1 (And.intro hfin.2.1 (And.intro r1 (And.intro r3 (And.intro r4 hb3)))))
        clear hfin r1 r3 r4 hb3
        go_upto_region 7 with (fail)
        refine wp_gen (fun Wv => OwnM Wv wa1.heap.size 48 (.slice tA tn tc) (.slice oA on oc) (.slice sA sn sc) (putF m n' i 0) ∧ OwnF Wv wa1.heap.size (.slice oA on oc) (putF m n' i 0).objs n' gf ∧ Bx Wv w.heap.size 26 #[tv, ov, sv] ∧ Bx Wv (w.heap.size + 1 + 1) 26 #[.slice none 0 0, .slice none 0 0, .slice none 0 0] ∧ Bx Wv wa2.heap.size 26 #[.slice tA tn tc, .slice oA on oc, .slice sA sn sc] ∧ Below w.heap.size w Wv) HH.out ?_
        rintro wz ⟨om2, of2, r1, r3, r4, B2⟩
        clear HH om of_ g1 g2 g3 g4 B m0 f0 c_g1 c_g2 f_g1 f_g2 a_g1 a_g2 d_g1 d_g2 e_g1 e_g2 c_g3 f_g3 a_g3 d_g3 e_g3 c_g4 f_g4 a_g4 d_g4 e_g4
        have c1 := r1.cell; have c3 := r3.cell; have f3 := r3.free; have c4 := r4.cell
        go_wp2
        refine bodyPost_ret (v := .tuple #[.agg #[.slice tA tn tc, .slice oA on oc, .slice sA sn sc], .int .i64 0]) (by simp [results, Try.results19, go_sem, c3, f3]) rfl ?_
        refine ⟨_, _, _, rfl, (OwnM.set3 om2 r3).mono (by first | assumption | omega), ?_⟩
        exact ((B2.setCell (p := ⟨w.heap.size + 1 + 1, 0, none⟩) (by simp; omega) _).setCell (p := ⟨w.heap.size + 1 + 1, 1, none⟩) (by simp; omega) _).setCell (p := ⟨w.heap.size + 1 + 1, 2, none⟩) (by simp; omega) _
      | some t =>
        obtain ⟨tg, rfl, hbt⟩ := hto
        obtain ⟨ta, tb⟩ := t
        dsimp only at hbt
        by_cases hre : rightErr m.slots ta tb = 0
        · have hr1 : r = 0 := by rw [hr]; unfold refE; rw [if_pos h0, ← hkd, if_pos hk]; exact hre
          obtain ⟨k2, s2, n2, rfl, hs2, hat2, hown2, hn2⟩ := to_ok hchk hre
          have hM1 : M = putF m n' i (UInt64.ofNat (n2 + 1)) := by rw [hM]; unfold refM; rw [← hr, hr1, if_pos rfl, L20.put, hown, Int.toNat_natCast]; show putF m n' i (UInt64.ofNat (own m (k2 : Int) + 1)) = _; rw [hown2]
          have FD := Lib.hid (fun w h => find20_any tv ov sv m k2 tb 0 hre.symm w h)
          obtain ⟨y, hy⟩ : ∃ y, y = UInt64.ofNat (n2 + 1) := ⟨_, rfl⟩
          rw [← hy] at hM1
          have hyn : (y.toNat : Int) = (n2 : Int) + 1 := by rw [hy, UInt64.toNat_ofNat', Nat.mod_eq_of_lt (by omega)]; rfl
          subst hr1; subst hM1
          have HS2 := Lib.hid hs2
          clear hr hM h0 hown ho hx hfx hkd hk h hchk hre hown2 hy hs2
          go_enter Try.func19, Try.ntmps19
          go_upto_region 1 with (fail)
          refine wp_gen (fun Wv => Bx Wv (w.heap.size) (26) (#[tv, ov, sv]) ∧ Bx Wv (w.heap.size + 1) (50) (#[.int .i64 sl, .int .i64 g]) ∧ Bx Wv (w.heap.size + 1 + 1) (26) (#[.slice none 0 0, .slice none 0 0, .slice none 0 0]) ∧ Below w.heap.size w Wv) ⟨((((Bx.at_ (by simp)).alloc _).alloc _)), (((Bx.at_ (by simp)).alloc _)), ((Bx.at_ (by simp))), ((((Below.refl _ w).alloc (by simp <;> omega) _).alloc (by simp <;> omega) _).alloc (by simp <;> omega) _)⟩ ?_
          rintro wa1 ⟨g1, g2, g3, b⟩
          replace B := B.trans (b.mono B.size); clear b
          have c_g1 := g1.cell; have f_g1 := g1.free; have a_g1 := fun o => (g1.alloc o).cell; have d_g1 := fun o o2 => ((g1.alloc o).alloc o2).cell; have e_g1 := fun o => (g1.alloc o).free
          have c_g2 := g2.cell; have f_g2 := g2.free; have a_g2 := fun o => (g2.alloc o).cell; have d_g2 := fun o o2 => ((g2.alloc o).alloc o2).cell; have e_g2 := fun o => (g2.alloc o).free
          have c_g3 := g3.cell; have f_g3 := g3.free; have a_g3 := fun o => (g3.alloc o).cell; have d_g3 := fun o o2 => ((g3.alloc o).alloc o2).cell; have e_g3 := fun o => (g3.alloc o).free
          have hp1 := g3.lt
          have hz1 := B.size
          go_wp2_with fail
          refine (FT.out _ (H.out.below B)).mono ?_
          rintro e wa2 ⟨t', o', s', gf, rfl, om, of_, b⟩
          try clear c_g1 f_g1 a_g1 d_g1 e_g1
          replace g1 := g1.below b; have c_g1 := g1.cell; have f_g1 := g1.free; have a_g1 := fun o => (g1.alloc o).cell; have d_g1 := fun o o2 => ((g1.alloc o).alloc o2).cell; have e_g1 := fun o => (g1.alloc o).free; try clear c_g2 f_g2 a_g2 d_g2 e_g2
          replace g2 := g2.below b; have c_g2 := g2.cell; have f_g2 := g2.free; have a_g2 := fun o => (g2.alloc o).cell; have d_g2 := fun o o2 => ((g2.alloc o).alloc o2).cell; have e_g2 := fun o => (g2.alloc o).free; try clear c_g3 f_g3 a_g3 d_g3 e_g3
          replace g3 := g3.below b; have c_g3 := g3.cell; have f_g3 := g3.free; have a_g3 := fun o => (g3.alloc o).cell; have d_g3 := fun o o2 => ((g3.alloc o).alloc o2).cell; have e_g3 := fun o => (g3.alloc o).free; replace B := B.trans (b.mono B.size); clear b
          obtain ⟨⟨tA, tn, tc, rfl⟩, ⟨oA, on, oc, rfl⟩, ⟨sA, sn, sc, rfl⟩⟩ := om.forms
          have hgf := (of_.cell HO.out.1 HO.out.2).2.2
          go_upto_region 2 with (fail)
          refine wp_gen (fun Wv => Bx Wv (wa2.heap.size) (26) (#[.slice tA tn tc, .slice oA on oc, .slice sA sn sc]) ∧ Below wa2.heap.size wa2 Wv) ⟨((Bx.at_ (by simp))), ((Below.refl _ wa2).alloc (by simp <;> omega) _)⟩ ?_
          rintro wa3 ⟨g4, b⟩
          try clear c_g1 f_g1 a_g1 d_g1 e_g1
          replace g1 := g1.below b; have c_g1 := g1.cell; have f_g1 := g1.free; have a_g1 := fun o => (g1.alloc o).cell; have d_g1 := fun o o2 => ((g1.alloc o).alloc o2).cell; have e_g1 := fun o => (g1.alloc o).free; try clear c_g2 f_g2 a_g2 d_g2 e_g2
          replace g2 := g2.below b; have c_g2 := g2.cell; have f_g2 := g2.free; have a_g2 := fun o => (g2.alloc o).cell; have d_g2 := fun o o2 => ((g2.alloc o).alloc o2).cell; have e_g2 := fun o => (g2.alloc o).free; try clear c_g3 f_g3 a_g3 d_g3 e_g3
          replace g3 := g3.below b; have c_g3 := g3.cell; have f_g3 := g3.free; have a_g3 := fun o => (g3.alloc o).cell; have d_g3 := fun o o2 => ((g3.alloc o).alloc o2).cell; have e_g3 := fun o => (g3.alloc o).free; replace om := om.below b; replace of_ := of_.below b; replace B := B.trans (b.mono B.size); clear b
          have c_g4 := g4.cell; have f_g4 := g4.free; have a_g4 := fun o => (g4.alloc o).cell; have d_g4 := fun o o2 => ((g4.alloc o).alloc o2).cell; have e_g4 := fun o => (g4.alloc o).free
          obtain ⟨m0, f0, _⟩ := of_.cell HO.out.1 HO.out.2
          have hfin := OwnM.storeF om of_ HO.out.1 HO.out.2 0
          have r1 := g1.far (p := ⟨gf, i, none⟩) (by show _ ≠ gf; omega) (.int .u64 (UInt64.toNat 0))
          have r3 := g3.far (p := ⟨gf, i, none⟩) (by show _ ≠ gf; omega) (.int .u64 (UInt64.toNat 0))
          have r4 := g4.far (p := ⟨gf, i, none⟩) (by show _ ≠ gf; omega) (.int .u64 (UInt64.toNat 0))
          have hb3 := B.setCell (p := ⟨gf, i, none⟩) (by show w.heap.size ≤ gf; omega) (.int .u64 (UInt64.toNat 0))
          have HH := Lib.hid (And.intro hfin.1 (And.intro hfin.2.1 (And.intro r1 (And.intro r3 (And.intro r4 hb3)))))
          clear hfin r1 r3 r4 hb3
          go_upto_region 7 with (fail)
          refine wp_gen (fun Wv => OwnM Wv wa1.heap.size 48 (.slice tA tn tc) (.slice oA on oc) (.slice sA sn sc) (putF m n' i 0) ∧ OwnF Wv wa1.heap.size (.slice oA on oc) (putF m n' i 0).objs n' gf ∧ Bx Wv w.heap.size 26 #[tv, ov, sv] ∧ Bx Wv (w.heap.size + 1 + 1) 26 #[.slice none 0 0, .slice none 0 0, .slice none 0 0] ∧ Bx Wv wa2.heap.size 26 #[.slice tA tn tc, .slice oA on oc, .slice sA sn sc] ∧ Below w.heap.size w Wv) HH.out ?_
          rintro wz ⟨om2, of2, r1, r3, r4, B2⟩
          clear HH om of_ g1 g2 g3 g4 B m0 f0 c_g1 c_g2 f_g1 f_g2 a_g1 a_g2 d_g1 d_g2 e_g1 e_g2 c_g3 f_g3 a_g3 d_g3 e_g3 c_g4 f_g4 a_g4 d_g4 e_g4
          have c1 := r1.cell; have c3 := r3.cell; have f3 := r3.free; have c4 := r4.cell
          have g1 := r1; have g3 := r3; have g4 := r4; have B := B2
          have g6 := hbt.below B
          have htg := hbt.lt
          clear c1 c3 f3 c4 r1 r3 r4
          have HC := Lib.hid (fun z : Fut wz => H.out.below (B2.trans (z.h.mono B2.size)))
          clear B2
          go_upto_region 8 with (fail)
          refine wp_region_calm (by kernel_rfl) (by kernel_rfl) ?_
          try clear c_g1 f_g1 a_g1 d_g1 e_g1
          have c_g1 := fun x : Fut _ => (g1.below x.h).cell
          try clear c_g3 f_g3 a_g3 d_g3 e_g3
          have c_g3 := fun x : Fut _ => (g3.below x.h).cell
          try clear c_g4 f_g4 a_g4 d_g4 e_g4
          have c_g4 := fun x : Fut _ => (g4.below x.h).cell
          try clear c_g6 f_g6 a_g6 d_g6 e_g6
          have c_g6 := fun x : Fut _ => (g6.below x.h).cell
          repeat (go_big_quiet_step (exact Fut.call (FD.out _ (HC.out _))))
          refine wpQuiet_nil ?_
          intro _ hw'
          obtain ⟨xq, hw''⟩ := hw'
          subst hw''
          clear c_g1; replace g1 := g1.below xq.h; have c_g1 := g1.cell; have f_g1 := g1.free; have a_g1 := fun o => (g1.alloc o).cell; have d_g1 := fun o o2 => ((g1.alloc o).alloc o2).cell; have e_g1 := fun o => (g1.alloc o).free
          clear c_g3; replace g3 := g3.below xq.h; have c_g3 := g3.cell; have f_g3 := g3.free; have a_g3 := fun o => (g3.alloc o).cell; have d_g3 := fun o o2 => ((g3.alloc o).alloc o2).cell; have e_g3 := fun o => (g3.alloc o).free
          clear c_g4; replace g4 := g4.below xq.h; have c_g4 := g4.cell; have f_g4 := g4.free; have a_g4 := fun o => (g4.alloc o).cell; have d_g4 := fun o o2 => ((g4.alloc o).alloc o2).cell; have e_g4 := fun o => (g4.alloc o).free
          clear c_g6; replace g6 := g6.below xq.h; have c_g6 := g6.cell; have f_g6 := g6.free; have a_g6 := fun o => (g6.alloc o).cell; have d_g6 := fun o o2 => ((g6.alloc o).alloc o2).cell; have e_g6 := fun o => (g6.alloc o).free
          replace om2 := om2.below xq.h
          replace of2 := of2.below xq.h
          replace B := B.trans (xq.h.mono B.size)
          go_upto_region 11 with (fail)
          obtain ⟨sb, sq, s3, ia, k0, k1, k2', hs3⟩ := H.out.s.at_ (P := Try.prog) Try.underlying24 size_slot (k := k2) (List.getElem?_eq_some_iff.1 HS2.out).1
          obtain rfl : s3 = s2 := by have := hs3.out; rw [HS2.out] at this; injection this with e; exact e.symm
          rw [hat2] at k2'
          clear k0 k1 hs3
          have hw1 : IntKind.u64.wrap (n2 : Int) = (n2 : Int) := by show (n2 : Int) % 18446744073709551616 = _; omega
          have hw2 : IntKind.u64.wrap ((n2 : Int) + 1) = (n2 : Int) + 1 := by show ((n2 : Int) + 1) % 18446744073709551616 = _; omega
          have hB1 := hz1
          have AL : ∀ d, d ≤ 1 → Below w.heap.size w ((wsR xq.W gf i ((n2 : Int) + 1)) d) ∧ Bx ((wsR xq.W gf i ((n2 : Int) + 1)) d) w.heap.size 26 #[tv, ov, sv] ∧ Bx ((wsR xq.W gf i ((n2 : Int) + 1)) d) tg 50 #[.int .i64 (k2 : Int), .int .i64 tb] := by
            intro d hd
            rcases d with _ | d
            · exact ⟨B.drew, g1, g6⟩
            · exact ⟨(B.drew).setCell (p := ⟨gf, i, none⟩) (by show w.heap.size ≤ gf; omega) _, (show Bx xq.W.drew _ _ _ from g1).far (p := ⟨gf, i, none⟩) (by show _ ≠ gf; omega) _, (show Bx xq.W.drew _ _ _ from g6).far (p := ⟨gf, i, none⟩) (by show _ ≠ gf; omega) _⟩
          have AA := Lib.hid (fun x : FXN (FL [13] (wsR xq.W gf i ((n2 : Int) + 1)) 13 1) => FL.all (ks := [13]) (Ws := (wsR xq.W gf i ((n2 : Int) + 1))) (p := fun W => Below w.heap.size w W ∧ Bx W w.heap.size 26 #[tv, ov, sv] ∧ Bx W tg 50 #[.int .i64 (k2 : Int), .int .i64 tb]) AL x)
          have ca := fun x : FXN (FL [13] (wsR xq.W gf i ((n2 : Int) + 1)) 13 1) => (AA.out x).2.1.cell
          have cb := fun x : FXN (FL [13] (wsR xq.W gf i ((n2 : Int) + 1)) 13 1) => (AA.out x).2.2.cell
          have cc := fun x : FXN (FL [13] (wsR xq.W gf i ((n2 : Int) + 1)) 13 1) => cell_later (AA.out x).1 k2'
          haveI : Nonempty (FXN (FL [13] (wsR xq.W gf i ((n2 : Int) + 1)) 13 1)) := ⟨⟨_, _, FL.start⟩⟩
          obtain ⟨mm0, ff0, _⟩ := of2.cell (putF_obj (x := 0) HO.out.1) (show (o.fs.set i 0)[i]? = some 0 by rw [List.getElem?_set_self (List.getElem?_eq_some_iff.1 HO.out.2).1])
          clear c_g1 f_g1 a_g1 d_g1 e_g1 c_g6 f_g6 a_g6 d_g6 e_g6 c_g3 f_g3 a_g3 d_g3 e_g3 c_g4 f_g4 a_g4 d_g4 e_g4 k2'
          refine wp_region_N (FL [13] (wsR xq.W gf i ((n2 : Int) + 1)) 13 1) [13, 13] FL.dep (by kernel_rfl) (by kernel_rfl) (by kernel_rfl) FL.start ?_
          iterate 4 (refine wpN_read FL.dep rfl (by decide) ?_; go_big_quiet_step (fail); refine wpQuiet_nil ?_)
          refine wpN_pure FL.dep (by decide) rfl (v := .pointer (some ⟨tg, 0, none⟩)) (fun W => by simp [execOp, Act.eval, go_sem]) ?_
          simp only [Act.put, List.setIfInBounds_toArray, List.set_cons_zero, List.set_cons_succ]
          iterate 7 (refine wpN_read FL.dep rfl (by decide) ?_; go_big_quiet_step (fail); refine wpQuiet_nil ?_)
          refine wpN_pure FL.dep (by decide) rfl (v := .pointer (some ⟨gf, i, none⟩)) (fun W => by simp [execOp, Act.eval, go_sem]) ?_
          simp only [Act.put, List.setIfInBounds_toArray, List.set_cons_zero, List.set_cons_succ]
          refine wpN_storeD FL.dep rfl 46 (.tmp 56) (.tmp 55) rfl (by rfl) (p := .pointer (some ⟨gf, i, none⟩)) (u := .int .u64 ((n2 : Int) + 1)) (by rfl) (by rfl) [] (by kernel_rfl) (fun f W hF h0 h1 => ?_) ?_
          · obtain ⟨rfl, h2⟩ := FL.step (i := 0) rfl (by decide) hF h0 (by intro p hp; omega) (by omega)
            refine ⟨_, ?_, h2⟩
            exact store_int (by kernel_rfl) xq.W.drew _ _ _ _ mm0 ff0
          show ∀ w', _ → _
          intro w' hw'
          obtain rfl := FL.done hw'
          have hfin := OwnM.storeF (w := xq.W.drew) ⟨om2.t, om2.o, om2.s⟩ (show OwnF xq.W.drew _ _ _ _ _ from of2) (putF_obj (x := 0) HO.out.1) (show (o.fs.set i 0)[i]? = some 0 by rw [List.getElem?_set_self (List.getElem?_eq_some_iff.1 HO.out.2).1]) y
          rw [putF_putF HO.out.1, hyn] at hfin
          have r3 := (show Bx xq.W.drew _ _ _ from g3).far (p := ⟨gf, i, none⟩) (by show _ ≠ gf; omega) (.int .u64 ((n2 : Int) + 1))
          have r4 := (show Bx xq.W.drew _ _ _ from g4).far (p := ⟨gf, i, none⟩) (by show _ ≠ gf; omega) (.int .u64 ((n2 : Int) + 1))
          have hb3 := (B.drew).setCell (p := ⟨gf, i, none⟩) (by show w.heap.size ≤ gf; omega) (.int .u64 ((n2 : Int) + 1))
          have HH := Lib.hid (And.intro hfin.1 (And.intro r3 (And.intro r4 hb3)))
          clear this ca cb cc AA AL hfin r3 r4 hb3 om2 of2 g1 g3 g4 g6 B mm0 ff0 hw' hw1 hw2
          go_upto_region 12 with (fail)
          refine wp_gen (fun Wv => OwnM Wv wa1.heap.size 48 (.slice tA tn tc) (.slice oA on oc) (.slice sA sn sc) (putF m n' i y) ∧ Bx Wv (w.heap.size + 1 + 1) 26 #[.slice none 0 0, .slice none 0 0, .slice none 0 0] ∧ Bx Wv wa2.heap.size 26 #[.slice tA tn tc, .slice oA on oc, .slice sA sn sc] ∧ Below w.heap.size w Wv) HH.out ?_
          rintro wy ⟨om3, r3, r4, B3⟩
          have c3 := r3.cell; have f3 := r3.free; have c4 := r4.cell
          go_wp2
          refine bodyPost_ret (v := .tuple #[.agg #[.slice tA tn tc, .slice oA on oc, .slice sA sn sc], .int .i64 0]) (by simp [results, Try.results19, go_sem, c3, f3]) rfl ?_
          refine ⟨_, _, _, rfl, (OwnM.set3 om3 r3).mono (by first | assumption | omega), ?_⟩
          exact ((B3.setCell (p := ⟨w.heap.size + 1 + 1, 0, none⟩) (by simp; omega) _).setCell (p := ⟨w.heap.size + 1 + 1, 1, none⟩) (by simp; omega) _).setCell (p := ⟨w.heap.size + 1 + 1, 2, none⟩) (by simp; omega) _
        · obtain ⟨z, hz⟩ : ∃ z, z = rightErr m.slots ta tb := ⟨_, rfl⟩
          have hr1 : r = z := by rw [hr]; unfold refE; rw [if_pos h0, ← hkd, if_pos hk, hz]
          have hM1 : M = .nil := by rw [hM]; unfold refM; rw [← hr, hr1, hz, if_neg hre]
          have FD := Lib.hid (fun w h => find20_any tv ov sv m ta tb z hz w h)
          have hne : (z != 0) = true := by rw [bne_iff_ne, hz]; exact hre
          subst hr1; subst hM1
          clear hr hM h0 hown ho hx hfx hkd hk h hchk hre hz
          go_enter Try.func19, Try.ntmps19
          go_upto_region 1 with (fail)
          refine wp_gen (fun Wv => Bx Wv (w.heap.size) (26) (#[tv, ov, sv]) ∧ Bx Wv (w.heap.size + 1) (50) (#[.int .i64 sl, .int .i64 g]) ∧ Bx Wv (w.heap.size + 1 + 1) (26) (#[.slice none 0 0, .slice none 0 0, .slice none 0 0]) ∧ Below w.heap.size w Wv) ⟨((((Bx.at_ (by simp)).alloc _).alloc _)), (((Bx.at_ (by simp)).alloc _)), ((Bx.at_ (by simp))), ((((Below.refl _ w).alloc (by simp <;> omega) _).alloc (by simp <;> omega) _).alloc (by simp <;> omega) _)⟩ ?_
          rintro wa1 ⟨g1, g2, g3, b⟩
          replace B := B.trans (b.mono B.size); clear b
          have c_g1 := g1.cell; have f_g1 := g1.free; have a_g1 := fun o => (g1.alloc o).cell; have d_g1 := fun o o2 => ((g1.alloc o).alloc o2).cell; have e_g1 := fun o => (g1.alloc o).free
          have c_g2 := g2.cell; have f_g2 := g2.free; have a_g2 := fun o => (g2.alloc o).cell; have d_g2 := fun o o2 => ((g2.alloc o).alloc o2).cell; have e_g2 := fun o => (g2.alloc o).free
          have c_g3 := g3.cell; have f_g3 := g3.free; have a_g3 := fun o => (g3.alloc o).cell; have d_g3 := fun o o2 => ((g3.alloc o).alloc o2).cell; have e_g3 := fun o => (g3.alloc o).free
          have hp1 := g3.lt
          have hz1 := B.size
          go_wp2_with fail
          refine (FT.out _ (H.out.below B)).mono ?_
          rintro e wa2 ⟨t', o', s', gf, rfl, om, of_, b⟩
          try clear c_g1 f_g1 a_g1 d_g1 e_g1
          replace g1 := g1.below b; have c_g1 := g1.cell; have f_g1 := g1.free; have a_g1 := fun o => (g1.alloc o).cell; have d_g1 := fun o o2 => ((g1.alloc o).alloc o2).cell; have e_g1 := fun o => (g1.alloc o).free; try clear c_g2 f_g2 a_g2 d_g2 e_g2
          replace g2 := g2.below b; have c_g2 := g2.cell; have f_g2 := g2.free; have a_g2 := fun o => (g2.alloc o).cell; have d_g2 := fun o o2 => ((g2.alloc o).alloc o2).cell; have e_g2 := fun o => (g2.alloc o).free; try clear c_g3 f_g3 a_g3 d_g3 e_g3
          replace g3 := g3.below b; have c_g3 := g3.cell; have f_g3 := g3.free; have a_g3 := fun o => (g3.alloc o).cell; have d_g3 := fun o o2 => ((g3.alloc o).alloc o2).cell; have e_g3 := fun o => (g3.alloc o).free; replace B := B.trans (b.mono B.size); clear b
          obtain ⟨⟨tA, tn, tc, rfl⟩, ⟨oA, on, oc, rfl⟩, ⟨sA, sn, sc, rfl⟩⟩ := om.forms
          have hgf := (of_.cell HO.out.1 HO.out.2).2.2
          go_upto_region 2 with (fail)
          refine wp_gen (fun Wv => Bx Wv (wa2.heap.size) (26) (#[.slice tA tn tc, .slice oA on oc, .slice sA sn sc]) ∧ Below wa2.heap.size wa2 Wv) ⟨((Bx.at_ (by simp))), ((Below.refl _ wa2).alloc (by simp <;> omega) _)⟩ ?_
          rintro wa3 ⟨g4, b⟩
          try clear c_g1 f_g1 a_g1 d_g1 e_g1
          replace g1 := g1.below b; have c_g1 := g1.cell; have f_g1 := g1.free; have a_g1 := fun o => (g1.alloc o).cell; have d_g1 := fun o o2 => ((g1.alloc o).alloc o2).cell; have e_g1 := fun o => (g1.alloc o).free; try clear c_g2 f_g2 a_g2 d_g2 e_g2
          replace g2 := g2.below b; have c_g2 := g2.cell; have f_g2 := g2.free; have a_g2 := fun o => (g2.alloc o).cell; have d_g2 := fun o o2 => ((g2.alloc o).alloc o2).cell; have e_g2 := fun o => (g2.alloc o).free; try clear c_g3 f_g3 a_g3 d_g3 e_g3
          replace g3 := g3.below b; have c_g3 := g3.cell; have f_g3 := g3.free; have a_g3 := fun o => (g3.alloc o).cell; have d_g3 := fun o o2 => ((g3.alloc o).alloc o2).cell; have e_g3 := fun o => (g3.alloc o).free; replace om := om.below b; replace of_ := of_.below b; replace B := B.trans (b.mono B.size); clear b
          have c_g4 := g4.cell; have f_g4 := g4.free; have a_g4 := fun o => (g4.alloc o).cell; have d_g4 := fun o o2 => ((g4.alloc o).alloc o2).cell; have e_g4 := fun o => (g4.alloc o).free
          obtain ⟨m0, f0, _⟩ := of_.cell HO.out.1 HO.out.2
          have hfin := OwnM.storeF om of_ HO.out.1 HO.out.2 0
          have r1 := g1.far (p := ⟨gf, i, none⟩) (by show _ ≠ gf; omega) (.int .u64 (UInt64.toNat 0))
          have r3 := g3.far (p := ⟨gf, i, none⟩) (by show _ ≠ gf; omega) (.int .u64 (UInt64.toNat 0))
          have r4 := g4.far (p := ⟨gf, i, none⟩) (by show _ ≠ gf; omega) (.int .u64 (UInt64.toNat 0))
          have hb3 := B.setCell (p := ⟨gf, i, none⟩) (by show w.heap.size ≤ gf; omega) (.int .u64 (UInt64.toNat 0))
          have HH := Lib.hid (And.intro hfin.1 (And.intro hfin.2.1 (And.intro r1 (And.intro r3 (And.intro r4 hb3)))))
          clear hfin r1 r3 r4 hb3
          go_upto_region 7 with (fail)
          refine wp_gen (fun Wv => OwnM Wv wa1.heap.size 48 (.slice tA tn tc) (.slice oA on oc) (.slice sA sn sc) (putF m n' i 0) ∧ OwnF Wv wa1.heap.size (.slice oA on oc) (putF m n' i 0).objs n' gf ∧ Bx Wv w.heap.size 26 #[tv, ov, sv] ∧ Bx Wv (w.heap.size + 1 + 1) 26 #[.slice none 0 0, .slice none 0 0, .slice none 0 0] ∧ Bx Wv wa2.heap.size 26 #[.slice tA tn tc, .slice oA on oc, .slice sA sn sc] ∧ Below w.heap.size w Wv) HH.out ?_
          rintro wz ⟨om2, of2, r1, r3, r4, B2⟩
          clear HH om of_ g1 g2 g3 g4 B m0 f0 c_g1 c_g2 f_g1 f_g2 a_g1 a_g2 d_g1 d_g2 e_g1 e_g2 c_g3 f_g3 a_g3 d_g3 e_g3 c_g4 f_g4 a_g4 d_g4 e_g4
          have c1 := r1.cell; have c3 := r3.cell; have f3 := r3.free; have c4 := r4.cell
          have g1 := r1; have g3 := r3; have g4 := r4; have B := B2
          have g6 := hbt.below B
          clear c1 c3 f3 c4 r1 r3 r4 om2 of2
          have HC := Lib.hid (fun z : Fut wz => H.out.below (B2.trans (z.h.mono B2.size)))
          clear B2
          go_upto_region 8 with (fail)
          refine wp_region_calm (by kernel_rfl) (by kernel_rfl) ?_
          try clear c_g1 f_g1 a_g1 d_g1 e_g1
          have c_g1 := fun x : Fut _ => (g1.below x.h).cell
          try clear c_g3 f_g3 a_g3 d_g3 e_g3
          have c_g3 := fun x : Fut _ => (g3.below x.h).cell
          try clear c_g4 f_g4 a_g4 d_g4 e_g4
          have c_g4 := fun x : Fut _ => (g4.below x.h).cell
          try clear c_g6 f_g6 a_g6 d_g6 e_g6
          have c_g6 := fun x : Fut _ => (g6.below x.h).cell
          repeat (go_big_quiet_step (exact Fut.call (FD.out _ (HC.out _))))
          refine wpQuiet_nil ?_
          intro _ hw'
          obtain ⟨xq, hw''⟩ := hw'
          subst hw''
          clear c_g1; replace g1 := g1.below xq.h; have c_g1 := g1.cell; have f_g1 := g1.free; have a_g1 := fun o => (g1.alloc o).cell; have d_g1 := fun o o2 => ((g1.alloc o).alloc o2).cell; have e_g1 := fun o => (g1.alloc o).free
          clear c_g3; replace g3 := g3.below xq.h; have c_g3 := g3.cell; have f_g3 := g3.free; have a_g3 := fun o => (g3.alloc o).cell; have d_g3 := fun o o2 => ((g3.alloc o).alloc o2).cell; have e_g3 := fun o => (g3.alloc o).free
          clear c_g4; replace g4 := g4.below xq.h; have c_g4 := g4.cell; have f_g4 := g4.free; have a_g4 := fun o => (g4.alloc o).cell; have d_g4 := fun o o2 => ((g4.alloc o).alloc o2).cell; have e_g4 := fun o => (g4.alloc o).free
          clear c_g6; replace g6 := g6.below xq.h; have c_g6 := g6.cell; have f_g6 := g6.free; have a_g6 := fun o => (g6.alloc o).cell; have d_g6 := fun o o2 => ((g6.alloc o).alloc o2).cell; have e_g6 := fun o => (g6.alloc o).free
          replace B := B.trans (xq.h.mono B.size)
          go_wp2
          refine bodyPost_ret (v := .tuple #[.agg #[.slice none 0 0, .slice none 0 0, .slice none 0 0], .int .i64 r]) (by simp [results, Try.results19, go_sem, c_g3, f_g3]) rfl ?_
          refine ⟨_, _, _, rfl, OwnM.nil _ _, ?_⟩
          exact ((B.setCell (p := ⟨w.heap.size + 1 + 1, 0, none⟩) (by simp; omega) _).setCell (p := ⟨w.heap.size + 1 + 1, 1, none⟩) (by simp; omega) _).setCell (p := ⟨w.heap.size + 1 + 1, 2, none⟩) (by simp; omega) _
    · have hr1 : r = 42 := by rw [hr]; unfold refE; rw [if_pos h0, ← hkd, if_neg hk]
      have hM1 : M = .nil := by rw [hM]; unfold refM; rw [← hr, hr1]; rfl
      have k3 : ((kd.toNat : Int) != 3) = true := by rw [bne_iff_ne]; omega
      subst hr1; subst hM1
      clear hr hM h0 hown ho hx hfx hkd hk h hchk hto
      go_enter Try.func19, Try.ntmps19
      go_upto_region 1 with (fail)
      refine wp_gen (fun Wv => Bx Wv (w.heap.size) (26) (#[tv, ov, sv]) ∧ Bx Wv (w.heap.size + 1) (50) (#[.int .i64 sl, .int .i64 g]) ∧ Bx Wv (w.heap.size + 1 + 1) (26) (#[.slice none 0 0, .slice none 0 0, .slice none 0 0]) ∧ Below w.heap.size w Wv) ⟨((((Bx.at_ (by simp)).alloc _).alloc _)), (((Bx.at_ (by simp)).alloc _)), ((Bx.at_ (by simp))), ((((Below.refl _ w).alloc (by simp <;> omega) _).alloc (by simp <;> omega) _).alloc (by simp <;> omega) _)⟩ ?_
      rintro wa1 ⟨g1, g2, g3, b⟩
      replace B := B.trans (b.mono B.size); clear b
      have c_g1 := g1.cell; have f_g1 := g1.free; have a_g1 := fun o => (g1.alloc o).cell; have d_g1 := fun o o2 => ((g1.alloc o).alloc o2).cell; have e_g1 := fun o => (g1.alloc o).free
      have c_g2 := g2.cell; have f_g2 := g2.free; have a_g2 := fun o => (g2.alloc o).cell; have d_g2 := fun o o2 => ((g2.alloc o).alloc o2).cell; have e_g2 := fun o => (g2.alloc o).free
      have c_g3 := g3.cell; have f_g3 := g3.free; have a_g3 := fun o => (g3.alloc o).cell; have d_g3 := fun o o2 => ((g3.alloc o).alloc o2).cell; have e_g3 := fun o => (g3.alloc o).free
      go_wp2_with fail
      refine (FT.out _ (H.out.below B)).mono ?_
      rintro e wa2 ⟨t', o', s', gf, rfl, om, of_, b⟩
      try clear c_g1 f_g1 a_g1 d_g1 e_g1
      replace g1 := g1.below b; have c_g1 := g1.cell; have f_g1 := g1.free; have a_g1 := fun o => (g1.alloc o).cell; have d_g1 := fun o o2 => ((g1.alloc o).alloc o2).cell; have e_g1 := fun o => (g1.alloc o).free; try clear c_g2 f_g2 a_g2 d_g2 e_g2
      replace g2 := g2.below b; have c_g2 := g2.cell; have f_g2 := g2.free; have a_g2 := fun o => (g2.alloc o).cell; have d_g2 := fun o o2 => ((g2.alloc o).alloc o2).cell; have e_g2 := fun o => (g2.alloc o).free; try clear c_g3 f_g3 a_g3 d_g3 e_g3
      replace g3 := g3.below b; have c_g3 := g3.cell; have f_g3 := g3.free; have a_g3 := fun o => (g3.alloc o).cell; have d_g3 := fun o o2 => ((g3.alloc o).alloc o2).cell; have e_g3 := fun o => (g3.alloc o).free; replace B := B.trans (b.mono B.size); clear b
      obtain ⟨⟨tA, tn, tc, rfl⟩, ⟨oA, on, oc, rfl⟩, ⟨sA, sn, sc, rfl⟩⟩ := om.forms
      clear om of_
      go_upto_region 2 with (fail)
      refine wp_gen (fun Wv => Bx Wv (wa2.heap.size) (26) (#[.slice tA tn tc, .slice oA on oc, .slice sA sn sc]) ∧ Below wa2.heap.size wa2 Wv) ⟨((Bx.at_ (by simp))), ((Below.refl _ wa2).alloc (by simp <;> omega) _)⟩ ?_
      rintro wa3 ⟨g4, b⟩
      try clear c_g1 f_g1 a_g1 d_g1 e_g1
      replace g1 := g1.below b; have c_g1 := g1.cell; have f_g1 := g1.free; have a_g1 := fun o => (g1.alloc o).cell; have d_g1 := fun o o2 => ((g1.alloc o).alloc o2).cell; have e_g1 := fun o => (g1.alloc o).free; try clear c_g2 f_g2 a_g2 d_g2 e_g2
      replace g2 := g2.below b; have c_g2 := g2.cell; have f_g2 := g2.free; have a_g2 := fun o => (g2.alloc o).cell; have d_g2 := fun o o2 => ((g2.alloc o).alloc o2).cell; have e_g2 := fun o => (g2.alloc o).free; try clear c_g3 f_g3 a_g3 d_g3 e_g3
      replace g3 := g3.below b; have c_g3 := g3.cell; have f_g3 := g3.free; have a_g3 := fun o => (g3.alloc o).cell; have d_g3 := fun o o2 => ((g3.alloc o).alloc o2).cell; have e_g3 := fun o => (g3.alloc o).free; replace B := B.trans (b.mono B.size); clear b
      have c_g4 := g4.cell; have f_g4 := g4.free; have a_g4 := fun o => (g4.alloc o).cell; have d_g4 := fun o o2 => ((g4.alloc o).alloc o2).cell; have e_g4 := fun o => (g4.alloc o).free
      go_wp2
      refine bodyPost_ret (v := .tuple #[.agg #[.slice none 0 0, .slice none 0 0, .slice none 0 0], .int .i64 42]) (by simp [results, Try.results19, go_sem, c_g3, f_g3]) rfl ?_
      refine ⟨_, _, _, rfl, OwnM.nil _ _, ?_⟩
      (repeat (first | refine Below.setCell ?_ (by first | exact Nat.le_refl _ | (simp <;> omega)) _ | refine Below.alloc ?_ (by first | exact B.size | (have := B.size; simp <;> omega)) _)); exact B
  · have hr1 : r = kErrF m sl g n := by rw [hr]; unfold refE; rw [if_neg h0]
    have hM1 : M = .nil := by rw [hM]; unfold refM; rw [← hr, hr1, if_neg h0]
    have FT := Lib.hid (fun w h => field_no tv ov sv m sl g n r hr1 (by rw [hr1]; exact h0) w h)
    have hne : (r != 0) = true := by rw [bne_iff_ne, hr1]; exact h0
    subst hM1
    clear hr hM hr1 h0 h hto
    go_enter Try.func19, Try.ntmps19
    go_upto_region 1 with (fail)
    refine wp_gen (fun Wv => Bx Wv (w.heap.size) (26) (#[tv, ov, sv]) ∧ Bx Wv (w.heap.size + 1) (50) (#[.int .i64 sl, .int .i64 g]) ∧ Bx Wv (w.heap.size + 1 + 1) (26) (#[.slice none 0 0, .slice none 0 0, .slice none 0 0]) ∧ Below w.heap.size w Wv) ⟨((((Bx.at_ (by simp)).alloc _).alloc _)), (((Bx.at_ (by simp)).alloc _)), ((Bx.at_ (by simp))), ((((Below.refl _ w).alloc (by simp <;> omega) _).alloc (by simp <;> omega) _).alloc (by simp <;> omega) _)⟩ ?_
    rintro wa1 ⟨g1, g2, g3, b⟩
    replace B := B.trans (b.mono B.size); clear b
    have c_g1 := g1.cell; have f_g1 := g1.free; have a_g1 := fun o => (g1.alloc o).cell; have d_g1 := fun o o2 => ((g1.alloc o).alloc o2).cell; have e_g1 := fun o => (g1.alloc o).free
    have c_g2 := g2.cell; have f_g2 := g2.free; have a_g2 := fun o => (g2.alloc o).cell; have d_g2 := fun o o2 => ((g2.alloc o).alloc o2).cell; have e_g2 := fun o => (g2.alloc o).free
    have c_g3 := g3.cell; have f_g3 := g3.free; have a_g3 := fun o => (g3.alloc o).cell; have d_g3 := fun o o2 => ((g3.alloc o).alloc o2).cell; have e_g3 := fun o => (g3.alloc o).free
    go_wp2_with fail
    refine (FT.out _ (H.out.below B)).mono ?_
    rintro e wa2 ⟨rfl, b⟩
    try clear c_g1 f_g1 a_g1 d_g1 e_g1
    replace g1 := g1.below b; have c_g1 := g1.cell; have f_g1 := g1.free; have a_g1 := fun o => (g1.alloc o).cell; have d_g1 := fun o o2 => ((g1.alloc o).alloc o2).cell; have e_g1 := fun o => (g1.alloc o).free; try clear c_g2 f_g2 a_g2 d_g2 e_g2
    replace g2 := g2.below b; have c_g2 := g2.cell; have f_g2 := g2.free; have a_g2 := fun o => (g2.alloc o).cell; have d_g2 := fun o o2 => ((g2.alloc o).alloc o2).cell; have e_g2 := fun o => (g2.alloc o).free; try clear c_g3 f_g3 a_g3 d_g3 e_g3
    replace g3 := g3.below b; have c_g3 := g3.cell; have f_g3 := g3.free; have a_g3 := fun o => (g3.alloc o).cell; have d_g3 := fun o o2 => ((g3.alloc o).alloc o2).cell; have e_g3 := fun o => (g3.alloc o).free; replace B := B.trans (b.mono B.size); clear b
    go_upto_region 2 with (fail)
    refine wp_gen (fun Wv => Bx Wv (wa2.heap.size) (26) (#[.slice none 0 0, .slice none 0 0, .slice none 0 0]) ∧ Below wa2.heap.size wa2 Wv) ⟨((Bx.at_ (by simp))), ((Below.refl _ wa2).alloc (by simp <;> omega) _)⟩ ?_
    rintro wa3 ⟨g4, b⟩
    try clear c_g1 f_g1 a_g1 d_g1 e_g1
    replace g1 := g1.below b; have c_g1 := g1.cell; have f_g1 := g1.free; have a_g1 := fun o => (g1.alloc o).cell; have d_g1 := fun o o2 => ((g1.alloc o).alloc o2).cell; have e_g1 := fun o => (g1.alloc o).free; try clear c_g2 f_g2 a_g2 d_g2 e_g2
    replace g2 := g2.below b; have c_g2 := g2.cell; have f_g2 := g2.free; have a_g2 := fun o => (g2.alloc o).cell; have d_g2 := fun o o2 => ((g2.alloc o).alloc o2).cell; have e_g2 := fun o => (g2.alloc o).free; try clear c_g3 f_g3 a_g3 d_g3 e_g3
    replace g3 := g3.below b; have c_g3 := g3.cell; have f_g3 := g3.free; have a_g3 := fun o => (g3.alloc o).cell; have d_g3 := fun o o2 => ((g3.alloc o).alloc o2).cell; have e_g3 := fun o => (g3.alloc o).free; replace B := B.trans (b.mono B.size); clear b
    have c_g4 := g4.cell; have f_g4 := g4.free; have a_g4 := fun o => (g4.alloc o).cell; have d_g4 := fun o o2 => ((g4.alloc o).alloc o2).cell; have e_g4 := fun o => (g4.alloc o).free
    go_wp2
    refine bodyPost_ret (v := .tuple #[.agg #[.slice none 0 0, .slice none 0 0, .slice none 0 0], .int .i64 r]) (by simp [results, Try.results19, go_sem, c_g3, f_g3]) rfl ?_
    refine ⟨_, _, _, rfl, OwnM.nil _ _, ?_⟩
    (repeat (first | refine Below.setCell ?_ (by first | exact Nat.le_refl _ | (simp <;> omega)) _ | refine Below.alloc ?_ (by first | exact B.size | (have := B.size; simp <;> omega)) _)); exact B
theorem SetRef20_any (tv ov sv : Value) (m : Mo) (sl g n : Int) (pv : Value) (tt : Option (Int × Int)) (M : Mo) (r : Int) (hM : M = refM m sl g n tt) (hr : r = refE m sl g n tt) (w : World) (h : Mod w tv ov sv m) (hto : PtrH w pv tt) :
    Calls Try.prog 19 #[.agg #[tv, ov, sv], .agg #[.int .i64 sl, .int .i64 g], .int .i64 n, pv] w fun e w' => ∃ t' o' s', e = .returned (.tuple #[.agg #[t', o', s'], .int .i64 r]) ∧ Mod w' t' o' s' M ∧ Below w.heap.size w w' :=
  (SetRef20_own tv ov sv m sl g n pv tt M r hM hr w h hto).mono fun e w' ⟨t', o', s', h1, h2, h3⟩ => ⟨t', o', s', h1, h2.rd, h3⟩
end Go.Proofs.Yteejianjjpdimaa
namespace Go.Proofs.Yteejianjjpdimaa
open Go.RowKit L02 L13 L18 L20
/-- the region in which a handle is made, and a block for it: g is that block. R: what holds of the model before, behind the call; ps: blocks that stay -/
def FHandle (w : World) (R : Bool → World → Prop) (ps : List (Nat × TypeId × Array Value)) (gf i : Nat) (x : Int) (a b : Int) (z : Nat) (g : Nat) : (Nat → Bool) → World → Prop := fun φ W =>
  (R (φ 6) W ∧ z ≤ W.heap.size) ∧ Below w.heap.size w W ∧ (∀ p ∈ ps, Bx W p.1 p.2.1 p.2.2) ∧ W.cell? ⟨gf, i, none⟩ = some (.int .u64 x) ∧ (φ 11 = true → φ 10 = true) ∧ (φ 10 = true → (∀ p ∈ ps, g ≠ p.1) ∧ gf ≠ g ∧ z ≤ g) ∧ (φ 10 = true → φ 11 = false → Bx W g 50 #[.int .i64 0, .int .i64 0]) ∧ (φ 11 = true → Bx W g 50 #[.int .i64 a, .int .i64 b])
theorem FHandle.dep {w : World} {R : Bool → World → Prop} {ps : List (Nat × TypeId × Array Value)} {gf i : Nat} {x a b : Int} {z g : Nat} : Dep (FHandle w R ps gf i x a b z g) [6, 10, 11] := by
  rintro φ ψ W h ⟨h1, h2, h3, h4, h5, h6, h7, h8⟩
  have e1 := h 6 (by simp); have e2 := h 10 (by simp); have e3 := h 11 (by simp)
  rw [e1] at h1; rw [e2, e3] at h5; rw [e2] at h6; rw [e2, e3] at h7; rw [e3] at h8
  exact ⟨h1, h2, h3, h4, h5, h6, h7, h8⟩
theorem FHandle.agree {w : World} {R : Bool → World → Prop} {ps : List (Nat × TypeId × Array Value)} {gf i : Nat} {x a b : Int} {z g g' : Nat} {φ : Nat → Bool} {W : World} (h : φ 10 = true → g = g') (hF : FHandle w R ps gf i x a b z g φ W) : FHandle w R ps gf i x a b z g' φ W := by
  by_cases h10 : φ 10 = true
  · rw [← h h10]; exact hF
  · obtain ⟨h1, h2, h3, h4, h5, h6, h7, h8⟩ := hF
    exact ⟨h1, h2, h3, h4, h5, fun e => absurd e h10, fun e => absurd e h10, fun e => absurd (h5 e) h10⟩
/-- the block is made -/
theorem FHandle.alloc {w : World} {R : Bool → World → Prop} {ps : List (Nat × TypeId × Array Value)} {gf i : Nat} {x a b : Int} {z g : Nat} {φ : Nat → Bool} {W : World} (hF : FHandle w R ps gf i x a b z g φ W) (h10 : φ 10 = false) (hR : ∀ c W o, R c W → R c (W.alloc o)) :
    FHandle w R ps gf i x a b z W.heap.size (fun j => j == 10 || φ j) (W.alloc (.cells #[.int .i64 0, .int .i64 0] 50)) := by
  obtain ⟨h1, h2, h3, h4, h5, h6, h7, h8⟩ := hF
  have h11 : φ 11 = false := by
    cases e : φ 11
    · rfl
    · rw [h5 e] at h10; cases h10
  have hlt := World.block_lt_of_cell? W _ h4
  refine ⟨⟨by simpa using hR _ _ _ h1.1, by simp; omega⟩, h2.alloc h2.size _, fun p hp => (h3 p hp).alloc _, cell_later ((Below.refl _ W).alloc (Nat.le_refl _) _) h4, by simp, fun _ => ⟨fun p hp => by have := (h3 p hp).lt; omega, by simp at hlt; omega, h1.2⟩, fun _ _ => Bx.new _ _ _, by simp [h11]⟩
/-- the handle is made -/
theorem FHandle.call {w : World} {R : Bool → World → Prop} {ps : List (Nat × TypeId × Array Value)} {gf i : Nat} {x a b : Int} {z g : Nat} {φ : Nat → Bool} {W W' : World} {row : Option Nat} (hF : FHandle w R ps gf i x a b z g φ W) (hk : Keep W W' row) (hps : ∀ p ∈ ps, row ≠ some p.1) (hgf : row ≠ some gf) (hrow : ∀ k, row = some k → k < z)
    (hR : R true W') (hB : Below w.heap.size w W') : FHandle w R ps gf i x a b z g (fun j => j == 6 || φ j) W' := by
  obtain ⟨h1, h2, h3, h4, h5, h6, h7, h8⟩ := hF
  have hlt := World.block_lt_of_cell? W _ h4
  have hrg : φ 10 = true → row = none ∨ row ≠ some g := fun e => by
    rcases row with _ | k
    · exact .inl rfl
    · have h := hrow k rfl
      have h' := (h6 e).2.2
      exact .inr (fun e => by injection e with e; omega)
  refine ⟨⟨by simpa using hR, Nat.le_trans h1.2 hk.1⟩, hB, fun p hp => (h3 p hp).keep hk (.inr (hps p hp)), ?_, by simpa using h5, by simpa using h6, fun e1 e2 => ?_, fun e => ?_⟩
  · rw [World.cell?_of_block (hk.2 gf hlt (fun e => hgf e.symm))]; exact h4
  · have e1' : φ 10 = true := by simpa using e1
    exact (h7 e1' (by simpa using e2)).keep hk (hrg e1')
  · have e' : φ 11 = true := by simpa using e
    exact (h8 e').keep hk (hrg (h5 e'))
/-- the handle is stored -/
theorem FHandle.store {w : World} {R : Bool → World → Prop} {ps : List (Nat × TypeId × Array Value)} {gf i : Nat} {x a b : Int} {z g : Nat} {φ : Nat → Bool} {W : World} (hF : FHandle w R ps gf i x a b z g φ W) (hz : w.heap.size ≤ z) (h10 : φ 10 = true) (h11 : φ 11 = false)
    (hR : ∀ c W p cs u, Bx W g 50 cs → R c W → R c (W.setCell ⟨g, p, none⟩ u)) :
    (W.cell? ⟨g, 0, none⟩ = some (.int .i64 0) ∧ W.cell? ⟨g, 1, none⟩ = some (.int .i64 0) ∧ ∀ j, W.frozen? ⟨g, j, none⟩ = false) ∧ FHandle w R ps gf i x a b z g (fun j => j == 11 || φ j) ((W.setCell ⟨g, 0, none⟩ (.int .i64 a)).setCell ⟨g, 1, none⟩ (.int .i64 b)) := by
  obtain ⟨h1, h2, h3, h4, h5, h6, h7, h8⟩ := hF
  have hb := h7 h10 h11
  obtain ⟨k1, k2, k3⟩ := h6 h10
  have k4 := Nat.le_trans hz k3
  refine ⟨⟨hb.cell 0, hb.cell 1, fun j => hb.free j⟩, ⟨?_, by simpa [World.setCell] using h1.2⟩, (h2.setCell (p := ⟨g, 0, none⟩) k4 _).setCell (p := ⟨g, 1, none⟩) k4 _, fun p hp => ((h3 p hp).far (p := ⟨g, 0, none⟩) (Ne.symm (k1 p hp)) _).far (p := ⟨g, 1, none⟩) (Ne.symm (k1 p hp)) _, cell_far (cell_far h4 k2) k2, fun _ => by simpa using h10, fun _ => ⟨k1, k2, k3⟩, fun _ e => by simp at e, fun _ => ?_⟩
  · have := hR _ _ 1 _ (.int .i64 b) (hb.set (i := 0) (.int .i64 a)) (hR _ _ 0 _ (.int .i64 a) hb h1.1)
    simpa using this
  · have := (hb.set (i := 0) (.int .i64 a)).set (i := 1) (.int .i64 b)
    simpa using this
theorem ne_of_or {o : Option Nat} {k : Nat} (h : o = none ∨ o ≠ some k) : o ≠ some k := by
  rcases h with rfl | h
  · exact fun e => by cases e
  · exact h
/-- making a handle in a model of the call's own: one of two ways -/
theorem handle_way {m : Mo} {n : Int} (hc : chk m = 0) (hfit : 0 ≤ n) : ∃ (a b : Int) (ok : Bool) (m2 : Mo), (∀ (tv ov sv : Value) (B0 : Nat) (w : World), OwnM w B0 48 tv ov sv m → B0 ≤ w.heap.size →
    Calls Try.prog 33 #[.agg #[tv, ov, sv], .int .i64 n] w fun e w' => e = .returned (.tuple #[.agg #[.int .i64 a, .int .i64 b], .bool ok]) ∧ OwnM w' B0 48 tv ov sv m2 ∧ Below B0 w w' ∧ Keep w w' sv.ownBlock) ∧
    ((ok = false ∧ next m.slots = none) ∨ (ok = true ∧ ∃ k s, next m.slots = some k ∧ m.slots[k]? = some s ∧ a = (k : Int) ∧ b = s.gen + 1 ∧ m2 = ⟨m.types, m.objs, m.slots.set k ⟨s.gen + 1, true, n⟩⟩)) := by
  obtain ⟨_, _, h16, _, _, hsl⟩ := chk_ok hc
  have hgen : ∀ s ∈ m.slots, 0 ≤ s.gen ∧ s.gen ≤ 2147483647 := fun s hs => (hsl s hs).1
  cases hn : next m.slots with
  | none =>
    refine ⟨0, 0, false, m, fun tv ov sv B0 w h hB => (handle_no tv ov sv m n hn hgen h16 w h.rd).mono fun e w' ⟨h1, h2⟩ => ⟨h1, h.below h2, h2.mono hB, Keep.of_below h2⟩, .inl ⟨rfl, rfl⟩⟩
  | some k =>
    obtain ⟨_, ⟨s, hs, _⟩, _⟩ := nextFrom_some hn
    rw [Nat.sub_zero] at hs
    exact ⟨k, s.gen + 1, true, _, fun tv ov sv B0 w h hB => handle_ok tv ov sv m n k s hn hs hgen h16 B0 w h hB, .inr ⟨rfl, k, s, rfl, hs, rfl, rfl, rfl⟩⟩
def valH (u : Value) (g k : Nat) : Value := if k = 6 then u else .pointer (some ⟨g, 0, none⟩)
def TH (av : Array Value) (k : Nat) (s : Sem Next) : Prop := if k = 6 then (∀ W, s.run Try.prog W = .ok (.enter 33 av) W) else ∀ W, s.run Try.prog W = .ok (.value (.pointer (some ⟨W.heap.size, 0, none⟩))) (W.alloc (.cells #[.int .i64 0, .int .i64 0] 50))
/-- the region of Root -/
theorem wp_region_handle {id : Nat} {Q : Exit → Act → World → Prop} {ac : Act} {w0 : World} {l : List Oper} (w : World) (R : Bool → World → Prop) (ps : List (Nat × TypeId × Array Value)) (gf i : Nat) (x a b : Int) (ok : Bool) (z : Nat) (av : Array Value) (row : Option Nat)
    (hm : (Try.prog).follows .mixedOrders = true) (hB : Region.lexB .any l.toArray = true)
    (hf : (([6, 10, 11] : List Nat).all fun j => (setAll l.length 0 (Array.replicate l.length false)).getD j false) = true)
    (hnj : (([6, 10] : List Nat).all fun k => ([6, 10, 11] : List Nat).contains k && match l.toArray[k]? with | some o => (([] : List Nat)).all (fun j => o.after.any fun e => Region.binds .any e && e.on == j) | none => false) = true)
    (hC : FHandle w R ps gf i x a b z 0 (fun _ => false) w0.drew) (hwz : w.heap.size ≤ z) (hps : ∀ p ∈ ps, row ≠ some p.1) (hgf : row ≠ some gf) (hrow : ∀ k, row = some k → k < z)
    (hRa : ∀ c W o, R c W → R c (W.alloc o))
    (hcall : ∀ W, R false W → z ≤ W.heap.size → Below w.heap.size w W → Calls Try.prog 33 av W fun e W' => e = .returned (.tuple #[.agg #[.int .i64 a, .int .i64 b], .bool ok]) ∧ R true W' ∧ Below w.heap.size w W' ∧ Keep W W' row)
    (h : ∀ g, wpM Try.prog .any l.toArray (CN (FHandle w R ps gf i x a b z g)) (fun i => ([6, 10] : List Nat).contains i) (valH (.tuple #[.agg #[.int .i64 a, .int .i64 b], .bool ok]) g) (TH av) (fun a' => ∀ w', FHandle w R ps gf i x a b z g (fun _ => true) w' → Q .normal a' w') l 0 ac) : (Code.region id l.toArray true).wp Try.prog Q ac w0 := by
  refine wp_region_M (valH (.tuple #[.agg #[.int .i64 a, .int .i64 b], .bool ok])) (fun φ g g' => φ 10 = true → g = g') (FHandle w R ps gf i x a b z) [6, 10, 11] [6, 10] (fun _ => []) (TH av) 0 (fun g => FHandle.dep) hm hB hf hnj
    (fun φ ψ g g' he h e => h (by rw [he 10 (by simp)]; exact e)) (fun φ g _ => rfl) (fun φ g g' g'' h1 h2 e => (h1 e).trans (h2 e)) (fun φ k g g' h hk e => h (by simp [e])) ?_ (fun φ g g' W h hF => FHandle.agree h hF) (fun g e => by cases e) hC ?_ h
  · intro φ k g g' hk h0 hA
    simp only [List.mem_cons, List.not_mem_nil, or_false] at hk
    rcases hk with rfl | rfl
    · rfl
    · rw [hA (by simp)]
  · intro k s φ W g hk hT h0 _ hF
    simp only [List.mem_cons, List.not_mem_nil, or_false] at hk
    rcases hk with rfl | rfl
    · have hT' : ∀ W, s.run Try.prog W = .ok (.enter 33 av) W := hT
      rw [hT' W]
      have hR := hF.1.1
      rw [h0] at hR
      refine (hcall W hR hF.1.2 hF.2.1).mono fun e W' ⟨e1, e2, e3, e4⟩ => ⟨_, e1, g, fun _ => rfl, rfl, ?_⟩
      exact FHandle.call hF e4 hps hgf hrow e2 e3
    · have hT' : ∀ W, s.run Try.prog W = .ok (.value (.pointer (some ⟨W.heap.size, 0, none⟩))) (W.alloc (.cells #[.int .i64 0, .int .i64 0] 50)) := hT
      rw [hT' W]
      refine ⟨W.heap.size, ?_, rfl, FHandle.alloc hF h0 hRa⟩
      intro e
      rw [h0] at e; cases e
/-- two results are stored, in either order -/
def FTwoR (w : World) (B0 : Nat) (t o s : Value) (m : Mo) (p7 p4 gq : Nat) (p3 : Nat) (a b : Int) : (Nat → Bool) → World → Prop := fun f W =>
  Below w.heap.size w W ∧ OwnM W B0 48 t o s m ∧ Bx W p3 26 (if f 2 = true then #[t, o, s] else #[.slice none 0 0, .slice none 0 0, .slice none 0 0]) ∧ Bx W p7 50 (if f 3 = true then #[.int .i64 a, .int .i64 b] else #[.int .i64 0, .int .i64 0]) ∧
    Bx W p4 26 #[t, o, s] ∧ Bx W gq 50 #[.int .i64 a, .int .i64 b]
theorem FTwoR.dep {w : World} {B0 : Nat} {t o s : Value} {m : Mo} {p7 p4 gq p3 : Nat} {a b : Int} : Dep (FTwoR w B0 t o s m p7 p4 gq p3 a b) [2, 3] := by
  rintro f g W h ⟨h1, h2, h3, h4, h5, h6⟩
  have e1 := h 2 (by simp); have e2 := h 3 (by simp)
  rw [e1] at h3; rw [e2] at h4
  exact ⟨h1, h2, h3, h4, h5, h6⟩
theorem FTwoR.store2 {w : World} {B0 : Nat} {t o s : Value} {m : Mo} {p7 p4 gq p3 : Nat} {a b : Int} {f : Nat → Bool} {W : World} (hF : FTwoR w B0 t o s m p7 p4 gq p3 a b f W) (h2 : f 2 = false) (hw : w.heap.size ≤ p3) (n7 : p7 ≠ p3) (n4 : p4 ≠ p3) (nq : gq ≠ p3) :
    (∀ j, W.cell? ⟨p3, j, none⟩ = (#[.slice none 0 0, .slice none 0 0, .slice none 0 0] : Array Value)[j]?) ∧ (∀ j, W.frozen? ⟨p3, j, none⟩ = false) ∧ FTwoR w B0 t o s m p7 p4 gq p3 a b (fun j => j == 2 || f j) (((W.setCell ⟨p3, 0, none⟩ t).setCell ⟨p3, 1, none⟩ o).setCell ⟨p3, 2, none⟩ s) := by
  obtain ⟨h1, om, h3, h4, h5, h6⟩ := hF
  rw [h2] at h3
  have h3 : Bx W p3 26 #[.slice none 0 0, .slice none 0 0, .slice none 0 0] := h3
  have fr := fun {q : Nat} {tq : TypeId} {cs : Array Value} (hb : Bx W q tq cs) (hn : q ≠ p3) => ((hb.far (p := ⟨p3, 0, none⟩) hn t).far (p := ⟨p3, 1, none⟩) hn o).far (p := ⟨p3, 2, none⟩) hn s
  refine ⟨h3.cell, h3.free, ((h1.setCell (p := ⟨p3, 0, none⟩) hw t).setCell (p := ⟨p3, 1, none⟩) hw o).setCell (p := ⟨p3, 2, none⟩) hw s, OwnM.set3 om h3, ?_, by simpa using fr h4 n7, fr h5 n4, fr h6 nq⟩
  have := ((h3.set (i := 0) t).set (i := 1) o).set (i := 2) s
  simpa using this
theorem FTwoR.store3 {w : World} {B0 : Nat} {t o s : Value} {m : Mo} {p7 p4 gq p3 : Nat} {a b : Int} {f : Nat → Bool} {W : World} (hF : FTwoR w B0 t o s m p7 p4 gq p3 a b f W) (h2 : f 3 = false) (hw : w.heap.size ≤ p7) (n3 : p3 ≠ p7) (n4 : p4 ≠ p7) (nq : gq ≠ p7) :
    (∀ j, W.cell? ⟨p7, j, none⟩ = (#[.int .i64 0, .int .i64 0] : Array Value)[j]?) ∧ (∀ j, W.frozen? ⟨p7, j, none⟩ = false) ∧ FTwoR w B0 t o s m p7 p4 gq p3 a b (fun j => j == 3 || f j) ((W.setCell ⟨p7, 0, none⟩ (.int .i64 a)).setCell ⟨p7, 1, none⟩ (.int .i64 b)) := by
  obtain ⟨h1, om, h3, h4, h5, h6⟩ := hF
  rw [h2] at h4
  have h4 : Bx W p7 50 #[.int .i64 0, .int .i64 0] := h4
  have fr := fun {q : Nat} {tq : TypeId} {cs : Array Value} (hb : Bx W q tq cs) (hn : q ≠ p7) => (hb.far (p := ⟨p7, 0, none⟩) hn (.int .i64 a)).far (p := ⟨p7, 1, none⟩) hn (.int .i64 b)
  refine ⟨h4.cell, h4.free, (h1.setCell (p := ⟨p7, 0, none⟩) hw _).setCell (p := ⟨p7, 1, none⟩) hw _, OwnM.setH (OwnM.setH om h4) (h4.set (i := 0) (.int .i64 a)), by simpa using fr h3 n3, ?_, fr h5 n4, fr h6 nq⟩
  have := (h4.set (i := 0) (.int .i64 a)).set (i := 1) (.int .i64 b)
  simpa using this
end Go.Proofs.Yteejianjjpdimaa
