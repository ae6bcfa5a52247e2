/- Contracts of models: setting a reference. -/
import Derived.Test.YtgjpohhafmkhcaaC20q
set_option linter.unusedVariables false
set_option linter.unusedSimpArgs false
namespace Go.Proofs.Ytgjpohhafmkhcaa
open Go.RowKit L02 L13 L18 L20

/-- a pointer to a handle, or none -/
def PtrH (w : World) (v : Value) (tt : Option (Int × Int)) : Prop := match tt with
  | none => v = .pointer none
  | some t => ∃ g, v = .pointer (some ⟨g, 0, none⟩) ∧ Bx w g 28 #[.int .i64 t.1, .int .i64 t.2]
theorem PtrH.below {w w' : World} {v : Value} {tt : Option (Int × Int)} (h : PtrH w v tt) (hb : Below w.heap.size w w') : PtrH w' v tt := by
  cases tt with
  | none => exact h
  | some t => obtain ⟨g, h1, h2⟩ := h; exact ⟨g, h1, h2.below hb⟩
theorem putF_obj {m : Mo} {n i : Nat} {o : Ob} {x : UInt64} (ho : m.objs[n]? = some o) : (putF m n i x).objs[n]? = some ⟨o.ty, o.fs.set i x⟩ := by
  have hob : ob m n = o := by simp [ob, List.getD_eq_getElem?_getD, ho]
  show (m.objs.set n _)[n]? = _
  rw [List.getElem?_set_self (List.getElem?_eq_some_iff.1 ho).1, hob]
theorem putF_putF {m : Mo} {n i : Nat} {o : Ob} {x y : UInt64} (ho : m.objs[n]? = some o) : putF (putF m n i x) n i y = putF m n i y := by
  have hob : ob m n = o := by simp [ob, List.getD_eq_getElem?_getD, ho]
  have hob2 : ob (putF m n i x) n = ⟨o.ty, o.fs.set i x⟩ := by simp [ob, List.getD_eq_getElem?_getD, putF_obj ho]
  show (⟨(putF m n i x).types, (putF m n i x).objs.set n ⟨(ob (putF m n i x) n).ty, (ob (putF m n i x) n).fs.set i y⟩, (putF m n i x).slots⟩ : Mo) = ⟨m.types, m.objs.set n ⟨(ob m n).ty, (ob m n).fs.set i y⟩, m.slots⟩
  rw [hob2, hob]
  show (⟨m.types, (m.objs.set n ⟨(ob m n).ty, (ob m n).fs.set i x⟩).set n _, m.slots⟩ : Mo) = _
  rw [List.set_set, List.set_set]
/-- the slot of a right handle -/
theorem to_ok {m : Mo} {sl g : Int} (hc : chk m = 0) (h : rightErr m.slots sl g = 0) : ∃ (k : Nat) (s : Sl) (n : Nat), sl = (k : Int) ∧ m.slots[k]? = some s ∧ s.at_ = (n : Int) ∧ own m sl = n ∧ n < 960 := by
  obtain ⟨h1, h2, h3⟩ := chk_ok hc
  obtain ⟨k, s, rfl, hk, hs, hu, hg⟩ := right_ok h
  have hso := h3.2.2.2 s (List.mem_of_getElem? hs)
  obtain ⟨a1, a2, a3⟩ := hso.2.2 hu
  obtain ⟨n, hn⟩ := Int.eq_ofNat_of_zero_le a2
  exact ⟨k, s, n, rfl, hs, hn, by simp [own, List.getD_eq_getElem?_getD, hs, hn], by omega⟩

def wsR (w : World) (g i : Nat) (x : Int) : Nat → World
  | 0 => w.drew
  | _ => w.drew.setCell ⟨g, i, none⟩ (.int .u64 x)

set_option maxRecDepth 100000 in
set_option maxHeartbeats 8000000 in
theorem SetRef20_any (tv ov sv : Value) (m : Mo) (sl g n : Int) (pv : Value) (tt : Option (Int × Int)) (M : Mo) (r : Int) (hM : M = refM m sl g n tt) (hr : r = refE m sl g n tt) (w : World) (h : Mod w tv ov sv m) (hto : PtrH w pv tt) :
    Calls Try.prog 15 #[.agg #[tv, ov, sv], .agg #[.int .i64 sl, .int .i64 g], .int .i64 n, pv] w fun e w' => ∃ t' o' s', e = .returned (.tuple #[.agg #[t', o', s'], .int .i64 r]) ∧ Mod w' t' o' s' M ∧ Below w.heap.size w w' := by
  have B : Below w.heap.size w w := Below.refl _ _
  have H := Lib.hid h
  by_cases h0 : kErrF m sl g n = 0
  · obtain ⟨i, n', o, x0, rfl, hown, ho, hx, hfx, hchk⟩ := fld_ok h0
    obtain ⟨kd, hkd⟩ : ∃ kd, kd = kind m sl g i := ⟨_, rfl⟩
    have FT := Lib.hid (fun w h => field_ok tv ov sv m sl g i kd o n' h0 hkd hown ho w h)
    have HO := Lib.hid (And.intro ho hx)
    by_cases hk : kd.toNat = 3
    · have k3 : ((kd.toNat : Int) != 3) = false := by rw [bne_eq_false_iff_eq]; omega
      cases tt with
      | none =>
        have hr1 : r = 0 := by rw [hr]; unfold refE; rw [if_pos h0, ← hkd, if_pos hk]
        have hM1 : M = putF m n' i 0 := by rw [hM]; unfold refM; rw [← hr, hr1, if_pos rfl, L20.put, hown, Int.toNat_natCast]
        obtain rfl : pv = .pointer none := hto
        subst hr1; subst hM1
        clear hr hM h0 hown ho hx hfx hkd hk h hchk
        go_enter Try.func15, Try.ntmps15
        go_upto_region 1 with (fail)
        refine wp_gen (fun Wv => Bx Wv (w.heap.size) (26) (#[tv, ov, sv]) ∧ Bx Wv (w.heap.size + 1) (28) (#[.int .i64 sl, .int .i64 g]) ∧ Bx Wv (w.heap.size + 1 + 1) (26) (#[.slice none 0 0, .slice none 0 0, .slice none 0 0]) ∧ Below w.heap.size w Wv) ⟨((((Bx.at_ (by simp)).alloc _).alloc _)), (((Bx.at_ (by simp)).alloc _)), ((Bx.at_ (by simp))), ((((Below.refl _ w).alloc (by simp <;> omega) _).alloc (by simp <;> omega) _).alloc (by simp <;> omega) _)⟩ ?_
        rintro wa1 ⟨g1, g2, g3, b⟩
        replace B := B.trans (b.mono B.size); clear b
        have c_g1 := g1.cell; have f_g1 := g1.free; have a_g1 := fun o => (g1.alloc o).cell; have d_g1 := fun o o2 => ((g1.alloc o).alloc o2).cell; have e_g1 := fun o => (g1.alloc o).free
        have c_g2 := g2.cell; have f_g2 := g2.free; have a_g2 := fun o => (g2.alloc o).cell; have d_g2 := fun o o2 => ((g2.alloc o).alloc o2).cell; have e_g2 := fun o => (g2.alloc o).free
        have c_g3 := g3.cell; have f_g3 := g3.free; have a_g3 := fun o => (g3.alloc o).cell; have d_g3 := fun o o2 => ((g3.alloc o).alloc o2).cell; have e_g3 := fun o => (g3.alloc o).free
        have hp1 := g3.lt
        have hz1 := B.size
        go_wp2_with fail
        refine (FT.out _ (H.out.below B)).mono ?_
        rintro e wa2 ⟨t', o', s', gf, rfl, om, of_, b⟩
        try clear c_g1 f_g1 a_g1 d_g1 e_g1
        replace g1 := g1.below b; have c_g1 := g1.cell; have f_g1 := g1.free; have a_g1 := fun o => (g1.alloc o).cell; have d_g1 := fun o o2 => ((g1.alloc o).alloc o2).cell; have e_g1 := fun o => (g1.alloc o).free; try clear c_g2 f_g2 a_g2 d_g2 e_g2
        replace g2 := g2.below b; have c_g2 := g2.cell; have f_g2 := g2.free; have a_g2 := fun o => (g2.alloc o).cell; have d_g2 := fun o o2 => ((g2.alloc o).alloc o2).cell; have e_g2 := fun o => (g2.alloc o).free; try clear c_g3 f_g3 a_g3 d_g3 e_g3
        replace g3 := g3.below b; have c_g3 := g3.cell; have f_g3 := g3.free; have a_g3 := fun o => (g3.alloc o).cell; have d_g3 := fun o o2 => ((g3.alloc o).alloc o2).cell; have e_g3 := fun o => (g3.alloc o).free; replace B := B.trans (b.mono B.size); clear b
        obtain ⟨⟨tA, tn, tc, rfl⟩, ⟨oA, on, oc, rfl⟩, ⟨sA, sn, sc, rfl⟩⟩ := om.forms
        have hgf := (of_.cell HO.out.1 HO.out.2).2.2
        go_upto_region 2 with (fail)
        refine wp_gen (fun Wv => Bx Wv (wa2.heap.size) (26) (#[.slice tA tn tc, .slice oA on oc, .slice sA sn sc]) ∧ Below wa2.heap.size wa2 Wv) ⟨((Bx.at_ (by simp))), ((Below.refl _ wa2).alloc (by simp <;> omega) _)⟩ ?_
        rintro wa3 ⟨g4, b⟩
        try clear c_g1 f_g1 a_g1 d_g1 e_g1
        replace g1 := g1.below b; have c_g1 := g1.cell; have f_g1 := g1.free; have a_g1 := fun o => (g1.alloc o).cell; have d_g1 := fun o o2 => ((g1.alloc o).alloc o2).cell; have e_g1 := fun o => (g1.alloc o).free; try clear c_g2 f_g2 a_g2 d_g2 e_g2
        replace g2 := g2.below b; have c_g2 := g2.cell; have f_g2 := g2.free; have a_g2 := fun o => (g2.alloc o).cell; have d_g2 := fun o o2 => ((g2.alloc o).alloc o2).cell; have e_g2 := fun o => (g2.alloc o).free; try clear c_g3 f_g3 a_g3 d_g3 e_g3
        replace g3 := g3.below b; have c_g3 := g3.cell; have f_g3 := g3.free; have a_g3 := fun o => (g3.alloc o).cell; have d_g3 := fun o o2 => ((g3.alloc o).alloc o2).cell; have e_g3 := fun o => (g3.alloc o).free; replace om := om.below b; replace of_ := of_.below b; replace B := B.trans (b.mono B.size); clear b
        have c_g4 := g4.cell; have f_g4 := g4.free; have a_g4 := fun o => (g4.alloc o).cell; have d_g4 := fun o o2 => ((g4.alloc o).alloc o2).cell; have e_g4 := fun o => (g4.alloc o).free
        obtain ⟨m0, f0, _⟩ := of_.cell HO.out.1 HO.out.2
        have hfin := OwnM.storeF om of_ HO.out.1 HO.out.2 0
        have r1 := g1.far (p := ⟨gf, i, none⟩) (by show _ ≠ gf; omega) (.int .u64 (UInt64.toNat 0))
        have r3 := g3.far (p := ⟨gf, i, none⟩) (by show _ ≠ gf; omega) (.int .u64 (UInt64.toNat 0))
        have r4 := g4.far (p := ⟨gf, i, none⟩) (by show _ ≠ gf; omega) (.int .u64 (UInt64.toNat 0))
        have hb3 := B.setCell (p := ⟨gf, i, none⟩) (by show w.heap.size ≤ gf; omega) (.int .u64 (UInt64.toNat 0))
        have HH := Lib.hid (And.intro hfin.1 (And.intro hfin.2.1 (And.intro r1 (And.intro r3 (And.intro r4 hb3)))))
        clear hfin r1 r3 r4 hb3
        go_upto_region 7 with (fail)
        refine wp_gen (fun Wv => OwnM Wv wa1.heap.size 67 (.slice tA tn tc) (.slice oA on oc) (.slice sA sn sc) (putF m n' i 0) ∧ OwnF Wv wa1.heap.size (.slice oA on oc) (putF m n' i 0).objs n' gf ∧ Bx Wv w.heap.size 26 #[tv, ov, sv] ∧ Bx Wv (w.heap.size + 1 + 1) 26 #[.slice none 0 0, .slice none 0 0, .slice none 0 0] ∧ Bx Wv wa2.heap.size 26 #[.slice tA tn tc, .slice oA on oc, .slice sA sn sc] ∧ Below w.heap.size w Wv) HH.out ?_
        rintro wz ⟨om2, of2, r1, r3, r4, B2⟩
        clear HH om of_ g1 g2 g3 g4 B m0 f0 c_g1 c_g2 f_g1 f_g2 a_g1 a_g2 d_g1 d_g2 e_g1 e_g2 c_g3 f_g3 a_g3 d_g3 e_g3 c_g4 f_g4 a_g4 d_g4 e_g4
        have c1 := r1.cell; have c3 := r3.cell; have f3 := r3.free; have c4 := r4.cell
        go_wp2
        refine bodyPost_ret (v := .tuple #[.agg #[.slice tA tn tc, .slice oA on oc, .slice sA sn sc], .int .i64 0]) (by simp [results, Try.results15, go_sem, c3, f3]) rfl ?_
        refine ⟨_, _, _, rfl, (OwnM.set3 om2 r3).rd, ?_⟩
        exact ((B2.setCell (p := ⟨w.heap.size + 1 + 1, 0, none⟩) (by simp; omega) _).setCell (p := ⟨w.heap.size + 1 + 1, 1, none⟩) (by simp; omega) _).setCell (p := ⟨w.heap.size + 1 + 1, 2, none⟩) (by simp; omega) _
      | some t =>
        obtain ⟨tg, rfl, hbt⟩ := hto
        obtain ⟨ta, tb⟩ := t
        dsimp only at hbt
        by_cases hre : rightErr m.slots ta tb = 0
        · have hr1 : r = 0 := by rw [hr]; unfold refE; rw [if_pos h0, ← hkd, if_pos hk]; exact hre
          obtain ⟨k2, s2, n2, rfl, hs2, hat2, hown2, hn2⟩ := to_ok hchk hre
          have hM1 : M = putF m n' i (UInt64.ofNat (n2 + 1)) := by rw [hM]; unfold refM; rw [← hr, hr1, if_pos rfl, L20.put, hown, Int.toNat_natCast]; show putF m n' i (UInt64.ofNat (own m (k2 : Int) + 1)) = _; rw [hown2]
          have FD := Lib.hid (fun w h => find20_any tv ov sv m k2 tb 0 hre.symm w h)
          obtain ⟨y, hy⟩ : ∃ y, y = UInt64.ofNat (n2 + 1) := ⟨_, rfl⟩
          rw [← hy] at hM1
          have hyn : (y.toNat : Int) = (n2 : Int) + 1 := by rw [hy, UInt64.toNat_ofNat', Nat.mod_eq_of_lt (by omega)]; rfl
          subst hr1; subst hM1
          have HS2 := Lib.hid hs2
          clear hr hM h0 hown ho hx hfx hkd hk h hchk hre hown2 hy hs2
          go_enter Try.func15, Try.ntmps15
          go_upto_region 1 with (fail)
          refine wp_gen (fun Wv => Bx Wv (w.heap.size) (26) (#[tv, ov, sv]) ∧ Bx Wv (w.heap.size + 1) (28) (#[.int .i64 sl, .int .i64 g]) ∧ Bx Wv (w.heap.size + 1 + 1) (26) (#[.slice none 0 0, .slice none 0 0, .slice none 0 0]) ∧ Below w.heap.size w Wv) ⟨((((Bx.at_ (by simp)).alloc _).alloc _)), (((Bx.at_ (by simp)).alloc _)), ((Bx.at_ (by simp))), ((((Below.refl _ w).alloc (by simp <;> omega) _).alloc (by simp <;> omega) _).alloc (by simp <;> omega) _)⟩ ?_
          rintro wa1 ⟨g1, g2, g3, b⟩
          replace B := B.trans (b.mono B.size); clear b
          have c_g1 := g1.cell; have f_g1 := g1.free; have a_g1 := fun o => (g1.alloc o).cell; have d_g1 := fun o o2 => ((g1.alloc o).alloc o2).cell; have e_g1 := fun o => (g1.alloc o).free
          have c_g2 := g2.cell; have f_g2 := g2.free; have a_g2 := fun o => (g2.alloc o).cell; have d_g2 := fun o o2 => ((g2.alloc o).alloc o2).cell; have e_g2 := fun o => (g2.alloc o).free
          have c_g3 := g3.cell; have f_g3 := g3.free; have a_g3 := fun o => (g3.alloc o).cell; have d_g3 := fun o o2 => ((g3.alloc o).alloc o2).cell; have e_g3 := fun o => (g3.alloc o).free
          have hp1 := g3.lt
          have hz1 := B.size
          go_wp2_with fail
          refine (FT.out _ (H.out.below B)).mono ?_
          rintro e wa2 ⟨t', o', s', gf, rfl, om, of_, b⟩
          try clear c_g1 f_g1 a_g1 d_g1 e_g1
          replace g1 := g1.below b; have c_g1 := g1.cell; have f_g1 := g1.free; have a_g1 := fun o => (g1.alloc o).cell; have d_g1 := fun o o2 => ((g1.alloc o).alloc o2).cell; have e_g1 := fun o => (g1.alloc o).free; try clear c_g2 f_g2 a_g2 d_g2 e_g2
          replace g2 := g2.below b; have c_g2 := g2.cell; have f_g2 := g2.free; have a_g2 := fun o => (g2.alloc o).cell; have d_g2 := fun o o2 => ((g2.alloc o).alloc o2).cell; have e_g2 := fun o => (g2.alloc o).free; try clear c_g3 f_g3 a_g3 d_g3 e_g3
          replace g3 := g3.below b; have c_g3 := g3.cell; have f_g3 := g3.free; have a_g3 := fun o => (g3.alloc o).cell; have d_g3 := fun o o2 => ((g3.alloc o).alloc o2).cell; have e_g3 := fun o => (g3.alloc o).free; replace B := B.trans (b.mono B.size); clear b
          obtain ⟨⟨tA, tn, tc, rfl⟩, ⟨oA, on, oc, rfl⟩, ⟨sA, sn, sc, rfl⟩⟩ := om.forms
          have hgf := (of_.cell HO.out.1 HO.out.2).2.2
          go_upto_region 2 with (fail)
          refine wp_gen (fun Wv => Bx Wv (wa2.heap.size) (26) (#[.slice tA tn tc, .slice oA on oc, .slice sA sn sc]) ∧ Below wa2.heap.size wa2 Wv) ⟨((Bx.at_ (by simp))), ((Below.refl _ wa2).alloc (by simp <;> omega) _)⟩ ?_
          rintro wa3 ⟨g4, b⟩
          try clear c_g1 f_g1 a_g1 d_g1 e_g1
          replace g1 := g1.below b; have c_g1 := g1.cell; have f_g1 := g1.free; have a_g1 := fun o => (g1.alloc o).cell; have d_g1 := fun o o2 => ((g1.alloc o).alloc o2).cell; have e_g1 := fun o => (g1.alloc o).free; try clear c_g2 f_g2 a_g2 d_g2 e_g2
          replace g2 := g2.below b; have c_g2 := g2.cell; have f_g2 := g2.free; have a_g2 := fun o => (g2.alloc o).cell; have d_g2 := fun o o2 => ((g2.alloc o).alloc o2).cell; have e_g2 := fun o => (g2.alloc o).free; try clear c_g3 f_g3 a_g3 d_g3 e_g3
          replace g3 := g3.below b; have c_g3 := g3.cell; have f_g3 := g3.free; have a_g3 := fun o => (g3.alloc o).cell; have d_g3 := fun o o2 => ((g3.alloc o).alloc o2).cell; have e_g3 := fun o => (g3.alloc o).free; replace om := om.below b; replace of_ := of_.below b; replace B := B.trans (b.mono B.size); clear b
          have c_g4 := g4.cell; have f_g4 := g4.free; have a_g4 := fun o => (g4.alloc o).cell; have d_g4 := fun o o2 => ((g4.alloc o).alloc o2).cell; have e_g4 := fun o => (g4.alloc o).free
          obtain ⟨m0, f0, _⟩ := of_.cell HO.out.1 HO.out.2
          have hfin := OwnM.storeF om of_ HO.out.1 HO.out.2 0
          have r1 := g1.far (p := ⟨gf, i, none⟩) (by show _ ≠ gf; omega) (.int .u64 (UInt64.toNat 0))
          have r3 := g3.far (p := ⟨gf, i, none⟩) (by show _ ≠ gf; omega) (.int .u64 (UInt64.toNat 0))
          have r4 := g4.far (p := ⟨gf, i, none⟩) (by show _ ≠ gf; omega) (.int .u64 (UInt64.toNat 0))
          have hb3 := B.setCell (p := ⟨gf, i, none⟩) (by show w.heap.size ≤ gf; omega) (.int .u64 (UInt64.toNat 0))
          have HH := Lib.hid (And.intro hfin.1 (And.intro hfin.2.1 (And.intro r1 (And.intro r3 (And.intro r4 hb3)))))
          clear hfin r1 r3 r4 hb3
          go_upto_region 7 with (fail)
          refine wp_gen (fun Wv => OwnM Wv wa1.heap.size 67 (.slice tA tn tc) (.slice oA on oc) (.slice sA sn sc) (putF m n' i 0) ∧ OwnF Wv wa1.heap.size (.slice oA on oc) (putF m n' i 0).objs n' gf ∧ Bx Wv w.heap.size 26 #[tv, ov, sv] ∧ Bx Wv (w.heap.size + 1 + 1) 26 #[.slice none 0 0, .slice none 0 0, .slice none 0 0] ∧ Bx Wv wa2.heap.size 26 #[.slice tA tn tc, .slice oA on oc, .slice sA sn sc] ∧ Below w.heap.size w Wv) HH.out ?_
          rintro wz ⟨om2, of2, r1, r3, r4, B2⟩
          clear HH om of_ g1 g2 g3 g4 B m0 f0 c_g1 c_g2 f_g1 f_g2 a_g1 a_g2 d_g1 d_g2 e_g1 e_g2 c_g3 f_g3 a_g3 d_g3 e_g3 c_g4 f_g4 a_g4 d_g4 e_g4
          have c1 := r1.cell; have c3 := r3.cell; have f3 := r3.free; have c4 := r4.cell
          have g1 := r1; have g3 := r3; have g4 := r4; have B := B2
          have g6 := hbt.below B
          have htg := hbt.lt
          clear c1 c3 f3 c4 r1 r3 r4
          have HC := Lib.hid (fun z : Fut wz => H.out.below (B2.trans (z.h.mono B2.size)))
          clear B2
          go_upto_region 8 with (fail)
          refine wp_region_calm (by kernel_rfl) (by kernel_rfl) ?_
          try clear c_g1 f_g1 a_g1 d_g1 e_g1
          have c_g1 := fun x : Fut _ => (g1.below x.h).cell
          try clear c_g3 f_g3 a_g3 d_g3 e_g3
          have c_g3 := fun x : Fut _ => (g3.below x.h).cell
          try clear c_g4 f_g4 a_g4 d_g4 e_g4
          have c_g4 := fun x : Fut _ => (g4.below x.h).cell
          try clear c_g6 f_g6 a_g6 d_g6 e_g6
          have c_g6 := fun x : Fut _ => (g6.below x.h).cell
          repeat (go_big_quiet_step (exact Fut.call (FD.out _ (HC.out _))))
          refine wpQuiet_nil ?_
          intro _ hw'
          obtain ⟨xq, hw''⟩ := hw'
          subst hw''
          clear c_g1; replace g1 := g1.below xq.h; have c_g1 := g1.cell; have f_g1 := g1.free; have a_g1 := fun o => (g1.alloc o).cell; have d_g1 := fun o o2 => ((g1.alloc o).alloc o2).cell; have e_g1 := fun o => (g1.alloc o).free
          clear c_g3; replace g3 := g3.below xq.h; have c_g3 := g3.cell; have f_g3 := g3.free; have a_g3 := fun o => (g3.alloc o).cell; have d_g3 := fun o o2 => ((g3.alloc o).alloc o2).cell; have e_g3 := fun o => (g3.alloc o).free
          clear c_g4; replace g4 := g4.below xq.h; have c_g4 := g4.cell; have f_g4 := g4.free; have a_g4 := fun o => (g4.alloc o).cell; have d_g4 := fun o o2 => ((g4.alloc o).alloc o2).cell; have e_g4 := fun o => (g4.alloc o).free
          clear c_g6; replace g6 := g6.below xq.h; have c_g6 := g6.cell; have f_g6 := g6.free; have a_g6 := fun o => (g6.alloc o).cell; have d_g6 := fun o o2 => ((g6.alloc o).alloc o2).cell; have e_g6 := fun o => (g6.alloc o).free
          replace om2 := om2.below xq.h
          replace of2 := of2.below xq.h
          replace B := B.trans (xq.h.mono B.size)
          go_upto_region 11 with (fail)
          obtain ⟨sb, sq, s3, ia, k0, k1, k2', hs3⟩ := H.out.s.at_ (P := Try.prog) Try.underlying24 size_slot (k := k2) (List.getElem?_eq_some_iff.1 HS2.out).1
          obtain rfl : s3 = s2 := by have := hs3.out; rw [HS2.out] at this; injection this with e; exact e.symm
          rw [hat2] at k2'
          clear k0 k1 hs3
          have hw1 : IntKind.u64.wrap (n2 : Int) = (n2 : Int) := by show (n2 : Int) % 18446744073709551616 = _; omega
          have hw2 : IntKind.u64.wrap ((n2 : Int) + 1) = (n2 : Int) + 1 := by show ((n2 : Int) + 1) % 18446744073709551616 = _; omega
          have hB1 := hz1
          have AL : ∀ d, d ≤ 1 → Below w.heap.size w ((wsR xq.W gf i ((n2 : Int) + 1)) d) ∧ Bx ((wsR xq.W gf i ((n2 : Int) + 1)) d) w.heap.size 26 #[tv, ov, sv] ∧ Bx ((wsR xq.W gf i ((n2 : Int) + 1)) d) tg 28 #[.int .i64 (k2 : Int), .int .i64 tb] := by
            intro d hd
            rcases d with _ | d
            · exact ⟨B.drew, g1, g6⟩
            · exact ⟨(B.drew).setCell (p := ⟨gf, i, none⟩) (by show w.heap.size ≤ gf; omega) _, (show Bx xq.W.drew _ _ _ from g1).far (p := ⟨gf, i, none⟩) (by show _ ≠ gf; omega) _, (show Bx xq.W.drew _ _ _ from g6).far (p := ⟨gf, i, none⟩) (by show _ ≠ gf; omega) _⟩
          have AA := Lib.hid (fun x : FXN (FL [13] (wsR xq.W gf i ((n2 : Int) + 1)) 13 1) => FL.all (ks := [13]) (Ws := (wsR xq.W gf i ((n2 : Int) + 1))) (p := fun W => Below w.heap.size w W ∧ Bx W w.heap.size 26 #[tv, ov, sv] ∧ Bx W tg 28 #[.int .i64 (k2 : Int), .int .i64 tb]) AL x)
          have ca := fun x : FXN (FL [13] (wsR xq.W gf i ((n2 : Int) + 1)) 13 1) => (AA.out x).2.1.cell
          have cb := fun x : FXN (FL [13] (wsR xq.W gf i ((n2 : Int) + 1)) 13 1) => (AA.out x).2.2.cell
          have cc := fun x : FXN (FL [13] (wsR xq.W gf i ((n2 : Int) + 1)) 13 1) => cell_later (AA.out x).1 k2'
          haveI : Nonempty (FXN (FL [13] (wsR xq.W gf i ((n2 : Int) + 1)) 13 1)) := ⟨⟨_, _, FL.start⟩⟩
          obtain ⟨mm0, ff0, _⟩ := of2.cell (putF_obj (x := 0) HO.out.1) (show (o.fs.set i 0)[i]? = some 0 by rw [List.getElem?_set_self (List.getElem?_eq_some_iff.1 HO.out.2).1])
          clear c_g1 f_g1 a_g1 d_g1 e_g1 c_g6 f_g6 a_g6 d_g6 e_g6 c_g3 f_g3 a_g3 d_g3 e_g3 c_g4 f_g4 a_g4 d_g4 e_g4 k2'
          refine wp_region_N (FL [13] (wsR xq.W gf i ((n2 : Int) + 1)) 13 1) [13, 13] FL.dep (by kernel_rfl) (by kernel_rfl) (by kernel_rfl) FL.start ?_
          iterate 4 (refine wpN_read FL.dep rfl (by decide) ?_; go_big_quiet_step (fail); refine wpQuiet_nil ?_)
          refine wpN_pure FL.dep (by decide) rfl (v := .pointer (some ⟨tg, 0, none⟩)) (fun W => by simp [execOp, Act.eval, go_sem]) ?_
          simp only [Act.put, List.setIfInBounds_toArray, List.set_cons_zero, List.set_cons_succ]
          iterate 7 (refine wpN_read FL.dep rfl (by decide) ?_; go_big_quiet_step (fail); refine wpQuiet_nil ?_)
          refine wpN_pure FL.dep (by decide) rfl (v := .pointer (some ⟨gf, i, none⟩)) (fun W => by simp [execOp, Act.eval, go_sem]) ?_
          simp only [Act.put, List.setIfInBounds_toArray, List.set_cons_zero, List.set_cons_succ]
          refine wpN_storeD FL.dep rfl 29 (.tmp 56) (.tmp 55) rfl (by rfl) (p := .pointer (some ⟨gf, i, none⟩)) (u := .int .u64 ((n2 : Int) + 1)) (by rfl) (by rfl) [] (by kernel_rfl) (fun f W hF h0 h1 => ?_) ?_
          · obtain ⟨rfl, h2⟩ := FL.step (i := 0) rfl (by decide) hF h0 (by intro p hp; omega) (by omega)
            refine ⟨_, ?_, h2⟩
            exact store_int (by kernel_rfl) xq.W.drew _ _ _ _ mm0 ff0
          show ∀ w', _ → _
          intro w' hw'
          obtain rfl := FL.done hw'
          have hfin := OwnM.storeF (w := xq.W.drew) ⟨om2.t, om2.o, om2.s⟩ (show OwnF xq.W.drew _ _ _ _ _ from of2) (putF_obj (x := 0) HO.out.1) (show (o.fs.set i 0)[i]? = some 0 by rw [List.getElem?_set_self (List.getElem?_eq_some_iff.1 HO.out.2).1]) y
          rw [putF_putF HO.out.1, hyn] at hfin
          have r3 := (show Bx xq.W.drew _ _ _ from g3).far (p := ⟨gf, i, none⟩) (by show _ ≠ gf; omega) (.int .u64 ((n2 : Int) + 1))
          have r4 := (show Bx xq.W.drew _ _ _ from g4).far (p := ⟨gf, i, none⟩) (by show _ ≠ gf; omega) (.int .u64 ((n2 : Int) + 1))
          have hb3 := (B.drew).setCell (p := ⟨gf, i, none⟩) (by show w.heap.size ≤ gf; omega) (.int .u64 ((n2 : Int) + 1))
          have HH := Lib.hid (And.intro hfin.1 (And.intro r3 (And.intro r4 hb3)))
          clear this ca cb cc AA AL hfin r3 r4 hb3 om2 of2 g1 g3 g4 g6 B mm0 ff0 hw' hw1 hw2
          go_upto_region 12 with (fail)
          refine wp_gen (fun Wv => OwnM Wv wa1.heap.size 67 (.slice tA tn tc) (.slice oA on oc) (.slice sA sn sc) (putF m n' i y) ∧ Bx Wv (w.heap.size + 1 + 1) 26 #[.slice none 0 0, .slice none 0 0, .slice none 0 0] ∧ Bx Wv wa2.heap.size 26 #[.slice tA tn tc, .slice oA on oc, .slice sA sn sc] ∧ Below w.heap.size w Wv) HH.out ?_
          rintro wy ⟨om3, r3, r4, B3⟩
          have c3 := r3.cell; have f3 := r3.free; have c4 := r4.cell
          go_wp2
          refine bodyPost_ret (v := .tuple #[.agg #[.slice tA tn tc, .slice oA on oc, .slice sA sn sc], .int .i64 0]) (by simp [results, Try.results15, go_sem, c3, f3]) rfl ?_
          refine ⟨_, _, _, rfl, (OwnM.set3 om3 r3).rd, ?_⟩
          exact ((B3.setCell (p := ⟨w.heap.size + 1 + 1, 0, none⟩) (by simp; omega) _).setCell (p := ⟨w.heap.size + 1 + 1, 1, none⟩) (by simp; omega) _).setCell (p := ⟨w.heap.size + 1 + 1, 2, none⟩) (by simp; omega) _
        · obtain ⟨z, hz⟩ : ∃ z, z = rightErr m.slots ta tb := ⟨_, rfl⟩
          have hr1 : r = z := by rw [hr]; unfold refE; rw [if_pos h0, ← hkd, if_pos hk, hz]
          have hM1 : M = .nil := by rw [hM]; unfold refM; rw [← hr, hr1, hz, if_neg hre]
          have FD := Lib.hid (fun w h => find20_any tv ov sv m ta tb z hz w h)
          have hne : (z != 0) = true := by rw [bne_iff_ne, hz]; exact hre
          subst hr1; subst hM1
          clear hr hM h0 hown ho hx hfx hkd hk h hchk hre hz
          go_enter Try.func15, Try.ntmps15
          go_upto_region 1 with (fail)
          refine wp_gen (fun Wv => Bx Wv (w.heap.size) (26) (#[tv, ov, sv]) ∧ Bx Wv (w.heap.size + 1) (28) (#[.int .i64 sl, .int .i64 g]) ∧ Bx Wv (w.heap.size + 1 + 1) (26) (#[.slice none 0 0, .slice none 0 0, .slice none 0 0]) ∧ Below w.heap.size w Wv) ⟨((((Bx.at_ (by simp)).alloc _).alloc _)), (((Bx.at_ (by simp)).alloc _)), ((Bx.at_ (by simp))), ((((Below.refl _ w).alloc (by simp <;> omega) _).alloc (by simp <;> omega) _).alloc (by simp <;> omega) _)⟩ ?_
          rintro wa1 ⟨g1, g2, g3, b⟩
          replace B := B.trans (b.mono B.size); clear b
          have c_g1 := g1.cell; have f_g1 := g1.free; have a_g1 := fun o => (g1.alloc o).cell; have d_g1 := fun o o2 => ((g1.alloc o).alloc o2).cell; have e_g1 := fun o => (g1.alloc o).free
          have c_g2 := g2.cell; have f_g2 := g2.free; have a_g2 := fun o => (g2.alloc o).cell; have d_g2 := fun o o2 => ((g2.alloc o).alloc o2).cell; have e_g2 := fun o => (g2.alloc o).free
          have c_g3 := g3.cell; have f_g3 := g3.free; have a_g3 := fun o => (g3.alloc o).cell; have d_g3 := fun o o2 => ((g3.alloc o).alloc o2).cell; have e_g3 := fun o => (g3.alloc o).free
          have hp1 := g3.lt
          have hz1 := B.size
          go_wp2_with fail
          refine (FT.out _ (H.out.below B)).mono ?_
          rintro e wa2 ⟨t', o', s', gf, rfl, om, of_, b⟩
          try clear c_g1 f_g1 a_g1 d_g1 e_g1
          replace g1 := g1.below b; have c_g1 := g1.cell; have f_g1 := g1.free; have a_g1 := fun o => (g1.alloc o).cell; have d_g1 := fun o o2 => ((g1.alloc o).alloc o2).cell; have e_g1 := fun o => (g1.alloc o).free; try clear c_g2 f_g2 a_g2 d_g2 e_g2
          replace g2 := g2.below b; have c_g2 := g2.cell; have f_g2 := g2.free; have a_g2 := fun o => (g2.alloc o).cell; have d_g2 := fun o o2 => ((g2.alloc o).alloc o2).cell; have e_g2 := fun o => (g2.alloc o).free; try clear c_g3 f_g3 a_g3 d_g3 e_g3
          replace g3 := g3.below b; have c_g3 := g3.cell; have f_g3 := g3.free; have a_g3 := fun o => (g3.alloc o).cell; have d_g3 := fun o o2 => ((g3.alloc o).alloc o2).cell; have e_g3 := fun o => (g3.alloc o).free; replace B := B.trans (b.mono B.size); clear b
          obtain ⟨⟨tA, tn, tc, rfl⟩, ⟨oA, on, oc, rfl⟩, ⟨sA, sn, sc, rfl⟩⟩ := om.forms
          have hgf := (of_.cell HO.out.1 HO.out.2).2.2
          go_upto_region 2 with (fail)
          refine wp_gen (fun Wv => Bx Wv (wa2.heap.size) (26) (#[.slice tA tn tc, .slice oA on oc, .slice sA sn sc]) ∧ Below wa2.heap.size wa2 Wv) ⟨((Bx.at_ (by simp))), ((Below.refl _ wa2).alloc (by simp <;> omega) _)⟩ ?_
          rintro wa3 ⟨g4, b⟩
          try clear c_g1 f_g1 a_g1 d_g1 e_g1
          replace g1 := g1.below b; have c_g1 := g1.cell; have f_g1 := g1.free; have a_g1 := fun o => (g1.alloc o).cell; have d_g1 := fun o o2 => ((g1.alloc o).alloc o2).cell; have e_g1 := fun o => (g1.alloc o).free; try clear c_g2 f_g2 a_g2 d_g2 e_g2
          replace g2 := g2.below b; have c_g2 := g2.cell; have f_g2 := g2.free; have a_g2 := fun o => (g2.alloc o).cell; have d_g2 := fun o o2 => ((g2.alloc o).alloc o2).cell; have e_g2 := fun o => (g2.alloc o).free; try clear c_g3 f_g3 a_g3 d_g3 e_g3
          replace g3 := g3.below b; have c_g3 := g3.cell; have f_g3 := g3.free; have a_g3 := fun o => (g3.alloc o).cell; have d_g3 := fun o o2 => ((g3.alloc o).alloc o2).cell; have e_g3 := fun o => (g3.alloc o).free; replace om := om.below b; replace of_ := of_.below b; replace B := B.trans (b.mono B.size); clear b
          have c_g4 := g4.cell; have f_g4 := g4.free; have a_g4 := fun o => (g4.alloc o).cell; have d_g4 := fun o o2 => ((g4.alloc o).alloc o2).cell; have e_g4 := fun o => (g4.alloc o).free
          obtain ⟨m0, f0, _⟩ := of_.cell HO.out.1 HO.out.2
          have hfin := OwnM.storeF om of_ HO.out.1 HO.out.2 0
          have r1 := g1.far (p := ⟨gf, i, none⟩) (by show _ ≠ gf; omega) (.int .u64 (UInt64.toNat 0))
          have r3 := g3.far (p := ⟨gf, i, none⟩) (by show _ ≠ gf; omega) (.int .u64 (UInt64.toNat 0))
          have r4 := g4.far (p := ⟨gf, i, none⟩) (by show _ ≠ gf; omega) (.int .u64 (UInt64.toNat 0))
          have hb3 := B.setCell (p := ⟨gf, i, none⟩) (by show w.heap.size ≤ gf; omega) (.int .u64 (UInt64.toNat 0))
          have HH := Lib.hid (And.intro hfin.1 (And.intro hfin.2.1 (And.intro r1 (And.intro r3 (And.intro r4 hb3)))))
          clear hfin r1 r3 r4 hb3
          go_upto_region 7 with (fail)
          refine wp_gen (fun Wv => OwnM Wv wa1.heap.size 67 (.slice tA tn tc) (.slice oA on oc) (.slice sA sn sc) (putF m n' i 0) ∧ OwnF Wv wa1.heap.size (.slice oA on oc) (putF m n' i 0).objs n' gf ∧ Bx Wv w.heap.size 26 #[tv, ov, sv] ∧ Bx Wv (w.heap.size + 1 + 1) 26 #[.slice none 0 0, .slice none 0 0, .slice none 0 0] ∧ Bx Wv wa2.heap.size 26 #[.slice tA tn tc, .slice oA on oc, .slice sA sn sc] ∧ Below w.heap.size w Wv) HH.out ?_
          rintro wz ⟨om2, of2, r1, r3, r4, B2⟩
          clear HH om of_ g1 g2 g3 g4 B m0 f0 c_g1 c_g2 f_g1 f_g2 a_g1 a_g2 d_g1 d_g2 e_g1 e_g2 c_g3 f_g3 a_g3 d_g3 e_g3 c_g4 f_g4 a_g4 d_g4 e_g4
          have c1 := r1.cell; have c3 := r3.cell; have f3 := r3.free; have c4 := r4.cell
          have g1 := r1; have g3 := r3; have g4 := r4; have B := B2
          have g6 := hbt.below B
          clear c1 c3 f3 c4 r1 r3 r4 om2 of2
          have HC := Lib.hid (fun z : Fut wz => H.out.below (B2.trans (z.h.mono B2.size)))
          clear B2
          go_upto_region 8 with (fail)
          refine wp_region_calm (by kernel_rfl) (by kernel_rfl) ?_
          try clear c_g1 f_g1 a_g1 d_g1 e_g1
          have c_g1 := fun x : Fut _ => (g1.below x.h).cell
          try clear c_g3 f_g3 a_g3 d_g3 e_g3
          have c_g3 := fun x : Fut _ => (g3.below x.h).cell
          try clear c_g4 f_g4 a_g4 d_g4 e_g4
          have c_g4 := fun x : Fut _ => (g4.below x.h).cell
          try clear c_g6 f_g6 a_g6 d_g6 e_g6
          have c_g6 := fun x : Fut _ => (g6.below x.h).cell
          repeat (go_big_quiet_step (exact Fut.call (FD.out _ (HC.out _))))
          refine wpQuiet_nil ?_
          intro _ hw'
          obtain ⟨xq, hw''⟩ := hw'
          subst hw''
          clear c_g1; replace g1 := g1.below xq.h; have c_g1 := g1.cell; have f_g1 := g1.free; have a_g1 := fun o => (g1.alloc o).cell; have d_g1 := fun o o2 => ((g1.alloc o).alloc o2).cell; have e_g1 := fun o => (g1.alloc o).free
          clear c_g3; replace g3 := g3.below xq.h; have c_g3 := g3.cell; have f_g3 := g3.free; have a_g3 := fun o => (g3.alloc o).cell; have d_g3 := fun o o2 => ((g3.alloc o).alloc o2).cell; have e_g3 := fun o => (g3.alloc o).free
          clear c_g4; replace g4 := g4.below xq.h; have c_g4 := g4.cell; have f_g4 := g4.free; have a_g4 := fun o => (g4.alloc o).cell; have d_g4 := fun o o2 => ((g4.alloc o).alloc o2).cell; have e_g4 := fun o => (g4.alloc o).free
          clear c_g6; replace g6 := g6.below xq.h; have c_g6 := g6.cell; have f_g6 := g6.free; have a_g6 := fun o => (g6.alloc o).cell; have d_g6 := fun o o2 => ((g6.alloc o).alloc o2).cell; have e_g6 := fun o => (g6.alloc o).free
          replace B := B.trans (xq.h.mono B.size)
          go_wp2
          refine bodyPost_ret (v := .tuple #[.agg #[.slice none 0 0, .slice none 0 0, .slice none 0 0], .int .i64 r]) (by simp [results, Try.results15, go_sem, c_g3, f_g3]) rfl ?_
          refine ⟨_, _, _, rfl, Mod.nil _, ?_⟩
          exact ((B.setCell (p := ⟨w.heap.size + 1 + 1, 0, none⟩) (by simp; omega) _).setCell (p := ⟨w.heap.size + 1 + 1, 1, none⟩) (by simp; omega) _).setCell (p := ⟨w.heap.size + 1 + 1, 2, none⟩) (by simp; omega) _
    · have hr1 : r = 42 := by rw [hr]; unfold refE; rw [if_pos h0, ← hkd, if_neg hk]
      have hM1 : M = .nil := by rw [hM]; unfold refM; rw [← hr, hr1]; rfl
      have k3 : ((kd.toNat : Int) != 3) = true := by rw [bne_iff_ne]; omega
      subst hr1; subst hM1
      clear hr hM h0 hown ho hx hfx hkd hk h hchk hto
      go_enter Try.func15, Try.ntmps15
      go_upto_region 1 with (fail)
      refine wp_gen (fun Wv => Bx Wv (w.heap.size) (26) (#[tv, ov, sv]) ∧ Bx Wv (w.heap.size + 1) (28) (#[.int .i64 sl, .int .i64 g]) ∧ Bx Wv (w.heap.size + 1 + 1) (26) (#[.slice none 0 0, .slice none 0 0, .slice none 0 0]) ∧ Below w.heap.size w Wv) ⟨((((Bx.at_ (by simp)).alloc _).alloc _)), (((Bx.at_ (by simp)).alloc _)), ((Bx.at_ (by simp))), ((((Below.refl _ w).alloc (by simp <;> omega) _).alloc (by simp <;> omega) _).alloc (by simp <;> omega) _)⟩ ?_
      rintro wa1 ⟨g1, g2, g3, b⟩
      replace B := B.trans (b.mono B.size); clear b
      have c_g1 := g1.cell; have f_g1 := g1.free; have a_g1 := fun o => (g1.alloc o).cell; have d_g1 := fun o o2 => ((g1.alloc o).alloc o2).cell; have e_g1 := fun o => (g1.alloc o).free
      have c_g2 := g2.cell; have f_g2 := g2.free; have a_g2 := fun o => (g2.alloc o).cell; have d_g2 := fun o o2 => ((g2.alloc o).alloc o2).cell; have e_g2 := fun o => (g2.alloc o).free
      have c_g3 := g3.cell; have f_g3 := g3.free; have a_g3 := fun o => (g3.alloc o).cell; have d_g3 := fun o o2 => ((g3.alloc o).alloc o2).cell; have e_g3 := fun o => (g3.alloc o).free
      go_wp2_with fail
      refine (FT.out _ (H.out.below B)).mono ?_
      rintro e wa2 ⟨t', o', s', gf, rfl, om, of_, b⟩
      try clear c_g1 f_g1 a_g1 d_g1 e_g1
      replace g1 := g1.below b; have c_g1 := g1.cell; have f_g1 := g1.free; have a_g1 := fun o => (g1.alloc o).cell; have d_g1 := fun o o2 => ((g1.alloc o).alloc o2).cell; have e_g1 := fun o => (g1.alloc o).free; try clear c_g2 f_g2 a_g2 d_g2 e_g2
      replace g2 := g2.below b; have c_g2 := g2.cell; have f_g2 := g2.free; have a_g2 := fun o => (g2.alloc o).cell; have d_g2 := fun o o2 => ((g2.alloc o).alloc o2).cell; have e_g2 := fun o => (g2.alloc o).free; try clear c_g3 f_g3 a_g3 d_g3 e_g3
      replace g3 := g3.below b; have c_g3 := g3.cell; have f_g3 := g3.free; have a_g3 := fun o => (g3.alloc o).cell; have d_g3 := fun o o2 => ((g3.alloc o).alloc o2).cell; have e_g3 := fun o => (g3.alloc o).free; replace B := B.trans (b.mono B.size); clear b
      obtain ⟨⟨tA, tn, tc, rfl⟩, ⟨oA, on, oc, rfl⟩, ⟨sA, sn, sc, rfl⟩⟩ := om.forms
      clear om of_
      go_upto_region 2 with (fail)
      refine wp_gen (fun Wv => Bx Wv (wa2.heap.size) (26) (#[.slice tA tn tc, .slice oA on oc, .slice sA sn sc]) ∧ Below wa2.heap.size wa2 Wv) ⟨((Bx.at_ (by simp))), ((Below.refl _ wa2).alloc (by simp <;> omega) _)⟩ ?_
      rintro wa3 ⟨g4, b⟩
      try clear c_g1 f_g1 a_g1 d_g1 e_g1
      replace g1 := g1.below b; have c_g1 := g1.cell; have f_g1 := g1.free; have a_g1 := fun o => (g1.alloc o).cell; have d_g1 := fun o o2 => ((g1.alloc o).alloc o2).cell; have e_g1 := fun o => (g1.alloc o).free; try clear c_g2 f_g2 a_g2 d_g2 e_g2
      replace g2 := g2.below b; have c_g2 := g2.cell; have f_g2 := g2.free; have a_g2 := fun o => (g2.alloc o).cell; have d_g2 := fun o o2 => ((g2.alloc o).alloc o2).cell; have e_g2 := fun o => (g2.alloc o).free; try clear c_g3 f_g3 a_g3 d_g3 e_g3
      replace g3 := g3.below b; have c_g3 := g3.cell; have f_g3 := g3.free; have a_g3 := fun o => (g3.alloc o).cell; have d_g3 := fun o o2 => ((g3.alloc o).alloc o2).cell; have e_g3 := fun o => (g3.alloc o).free; replace B := B.trans (b.mono B.size); clear b
      have c_g4 := g4.cell; have f_g4 := g4.free; have a_g4 := fun o => (g4.alloc o).cell; have d_g4 := fun o o2 => ((g4.alloc o).alloc o2).cell; have e_g4 := fun o => (g4.alloc o).free
      go_wp2
      refine bodyPost_ret (v := .tuple #[.agg #[.slice none 0 0, .slice none 0 0, .slice none 0 0], .int .i64 42]) (by simp [results, Try.results15, go_sem, c_g3, f_g3]) rfl ?_
      refine ⟨_, _, _, rfl, Mod.nil _, ?_⟩
      (repeat (first | refine Below.setCell ?_ (by first | exact Nat.le_refl _ | (simp <;> omega)) _ | refine Below.alloc ?_ (by first | exact B.size | (have := B.size; simp <;> omega)) _)); exact B
  · have hr1 : r = kErrF m sl g n := by rw [hr]; unfold refE; rw [if_neg h0]
    have hM1 : M = .nil := by rw [hM]; unfold refM; rw [← hr, hr1, if_neg h0]
    have FT := Lib.hid (fun w h => field_no tv ov sv m sl g n r hr1 (by rw [hr1]; exact h0) w h)
    have hne : (r != 0) = true := by rw [bne_iff_ne, hr1]; exact h0
    subst hM1
    clear hr hM hr1 h0 h hto
    go_enter Try.func15, Try.ntmps15
    go_upto_region 1 with (fail)
    refine wp_gen (fun Wv => Bx Wv (w.heap.size) (26) (#[tv, ov, sv]) ∧ Bx Wv (w.heap.size + 1) (28) (#[.int .i64 sl, .int .i64 g]) ∧ Bx Wv (w.heap.size + 1 + 1) (26) (#[.slice none 0 0, .slice none 0 0, .slice none 0 0]) ∧ Below w.heap.size w Wv) ⟨((((Bx.at_ (by simp)).alloc _).alloc _)), (((Bx.at_ (by simp)).alloc _)), ((Bx.at_ (by simp))), ((((Below.refl _ w).alloc (by simp <;> omega) _).alloc (by simp <;> omega) _).alloc (by simp <;> omega) _)⟩ ?_
    rintro wa1 ⟨g1, g2, g3, b⟩
    replace B := B.trans (b.mono B.size); clear b
    have c_g1 := g1.cell; have f_g1 := g1.free; have a_g1 := fun o => (g1.alloc o).cell; have d_g1 := fun o o2 => ((g1.alloc o).alloc o2).cell; have e_g1 := fun o => (g1.alloc o).free
    have c_g2 := g2.cell; have f_g2 := g2.free; have a_g2 := fun o => (g2.alloc o).cell; have d_g2 := fun o o2 => ((g2.alloc o).alloc o2).cell; have e_g2 := fun o => (g2.alloc o).free
    have c_g3 := g3.cell; have f_g3 := g3.free; have a_g3 := fun o => (g3.alloc o).cell; have d_g3 := fun o o2 => ((g3.alloc o).alloc o2).cell; have e_g3 := fun o => (g3.alloc o).free
    go_wp2_with fail
    refine (FT.out _ (H.out.below B)).mono ?_
    rintro e wa2 ⟨rfl, b⟩
    try clear c_g1 f_g1 a_g1 d_g1 e_g1
    replace g1 := g1.below b; have c_g1 := g1.cell; have f_g1 := g1.free; have a_g1 := fun o => (g1.alloc o).cell; have d_g1 := fun o o2 => ((g1.alloc o).alloc o2).cell; have e_g1 := fun o => (g1.alloc o).free; try clear c_g2 f_g2 a_g2 d_g2 e_g2
    replace g2 := g2.below b; have c_g2 := g2.cell; have f_g2 := g2.free; have a_g2 := fun o => (g2.alloc o).cell; have d_g2 := fun o o2 => ((g2.alloc o).alloc o2).cell; have e_g2 := fun o => (g2.alloc o).free; try clear c_g3 f_g3 a_g3 d_g3 e_g3
    replace g3 := g3.below b; have c_g3 := g3.cell; have f_g3 := g3.free; have a_g3 := fun o => (g3.alloc o).cell; have d_g3 := fun o o2 => ((g3.alloc o).alloc o2).cell; have e_g3 := fun o => (g3.alloc o).free; replace B := B.trans (b.mono B.size); clear b
    go_upto_region 2 with (fail)
    refine wp_gen (fun Wv => Bx Wv (wa2.heap.size) (26) (#[.slice none 0 0, .slice none 0 0, .slice none 0 0]) ∧ Below wa2.heap.size wa2 Wv) ⟨((Bx.at_ (by simp))), ((Below.refl _ wa2).alloc (by simp <;> omega) _)⟩ ?_
    rintro wa3 ⟨g4, b⟩
    try clear c_g1 f_g1 a_g1 d_g1 e_g1
    replace g1 := g1.below b; have c_g1 := g1.cell; have f_g1 := g1.free; have a_g1 := fun o => (g1.alloc o).cell; have d_g1 := fun o o2 => ((g1.alloc o).alloc o2).cell; have e_g1 := fun o => (g1.alloc o).free; try clear c_g2 f_g2 a_g2 d_g2 e_g2
    replace g2 := g2.below b; have c_g2 := g2.cell; have f_g2 := g2.free; have a_g2 := fun o => (g2.alloc o).cell; have d_g2 := fun o o2 => ((g2.alloc o).alloc o2).cell; have e_g2 := fun o => (g2.alloc o).free; try clear c_g3 f_g3 a_g3 d_g3 e_g3
    replace g3 := g3.below b; have c_g3 := g3.cell; have f_g3 := g3.free; have a_g3 := fun o => (g3.alloc o).cell; have d_g3 := fun o o2 => ((g3.alloc o).alloc o2).cell; have e_g3 := fun o => (g3.alloc o).free; replace B := B.trans (b.mono B.size); clear b
    have c_g4 := g4.cell; have f_g4 := g4.free; have a_g4 := fun o => (g4.alloc o).cell; have d_g4 := fun o o2 => ((g4.alloc o).alloc o2).cell; have e_g4 := fun o => (g4.alloc o).free
    go_wp2
    refine bodyPost_ret (v := .tuple #[.agg #[.slice none 0 0, .slice none 0 0, .slice none 0 0], .int .i64 r]) (by simp [results, Try.results15, go_sem, c_g3, f_g3]) rfl ?_
    refine ⟨_, _, _, rfl, Mod.nil _, ?_⟩
    (repeat (first | refine Below.setCell ?_ (by first | exact Nat.le_refl _ | (simp <;> omega)) _ | refine Below.alloc ?_ (by first | exact B.size | (have := B.size; simp <;> omega)) _)); exact B
end Go.Proofs.Ytgjpohhafmkhcaa
