/- Contracts of the functions that the laws 'N' reach, part 11. No condition. -/
import Derived.Test.YteejianjjpdimaaMNj
set_option linter.unusedVariables false
set_option linter.unusedSimpArgs false
namespace Go.Proofs.Yteejianjjpdimaa
open Go.RowKit L02 L13 L18 L20
theorem fld_ref {m : Mo} {sl g n : Int} (h : kErrF m sl g n = 0) (hk : (kind m sl g n).toNat = 3) : (fld m sl n).toNat ≤ 960 := by
  obtain ⟨ha, hn0, hnl⟩ := kErrF_inv h
  obtain ⟨c0, hr0, k, s, n2, o, t, _, hk16, hs, hu, hg, hso, hat, hown2, ho2, hob, hoo, ht, htt, hkinds, hfl⟩ := asked_ok ha
  obtain ⟨h1, h2, h3⟩ := chk_ok c0
  obtain ⟨i, rfl⟩ := Int.eq_ofNat_of_zero_le hn0
  rw [hkinds] at hnl
  have hi : i < o.fs.length := by omega
  have hf := hoo.2.2 i hi
  have e1 : kind m sl g i = (ty m.types o).getD i 0 := by rw [kind, if_pos h, hkinds, htt]; rfl
  have e2 : fld m sl i = o.fs.getD i 0 := by
    show (ob m (own m sl)).fs.getD (i : Int).toNat 0 = _
    rw [hown2, hob, Int.toNat_natCast]
  rw [← e1, ← e2] at hf
  have := hf.2 hk
  omega
set_option maxRecDepth 100000 in
set_option maxHeartbeats 8000000 in
theorem Root20_own (tv ov sv : Value) (m : Mo) (sl g n : Int) (M : Mo) (r hs hg : Int) (hM : M = rootM m sl g n) (hr : r = rootE m sl g n) (hhs : hs = rootS m sl g n) (hhg : hg = rootG m sl g n) (w : World) (h : Mod w tv ov sv m) :
    Calls Try.prog 20 #[.agg #[tv, ov, sv], .agg #[.int .i64 sl, .int .i64 g], .int .i64 n] w fun e w' => ∃ t' o' s', e = .returned (.tuple #[.agg #[t', o', s'], .agg #[.int .i64 hs, .int .i64 hg], .int .i64 r]) ∧ OwnM w' w.heap.size 48 t' o' s' M ∧ Below w.heap.size w w' := by
  have B : Below w.heap.size w w := Below.refl _ _
  have H := Lib.hid h
  have hno : r ≠ 0 → M = .nil ∧ hs = 0 ∧ hg = 0 := fun h => ⟨by rw [hM, rootM, ← hr, if_neg h], by rw [hhs, rootS, ← hr, if_neg h], by rw [hhg, rootG, ← hr, if_neg h]⟩
  by_cases h0 : kErrF m sl g n = 0
  · obtain ⟨i, n', o, x, rfl, hown, ho, hx, hfx, hchk⟩ := fld_ok h0
    obtain ⟨kd, hkd⟩ : ∃ kd, kd = kind m sl g i := ⟨_, rfl⟩
    have FT := Lib.hid (fun w h => field_ok tv ov sv m sl g i kd o n' h0 hkd hown ho w h)
    have HO := Lib.hid (And.intro ho hx)
    by_cases hk : kd.toNat = 3
    · have k3 : ((kd.toNat : Int) != 3) = false := by rw [bne_eq_false_iff_eq]; omega
      have hx960 := fld_ref h0 (by rw [← hkd]; exact hk)
      rw [hfx] at hx960
      by_cases hx0 : x = 0
      · have hr1 : r = 6 := by rw [hr, rootE, if_pos h0, ← hkd, if_pos hk, hfx, if_pos hx0]
        obtain ⟨e1, e2, e3⟩ := hno (by rw [hr1]; decide)
        have x0 : ((x.toNat : Int) == 0) = true := by rw [hx0]; rfl
        subst hr1; subst e1; subst e2; subst e3
        clear hr hM hhs hhg hno h0 hown ho hx hfx hkd hk h hx0
        go_enter Try.func20, Try.ntmps20
        go_upto_region 1 with (fail)
        refine wp_gen (fun Wv => Bx Wv (w.heap.size) (26) (#[tv, ov, sv]) ∧ Bx Wv (w.heap.size + 1) (50) (#[.int .i64 sl, .int .i64 g]) ∧ Bx Wv (w.heap.size + 1 + 1) (26) (#[.slice none 0 0, .slice none 0 0, .slice none 0 0]) ∧ Bx Wv (w.heap.size + 1 + 1 + 1) (50) (#[.int .i64 0, .int .i64 0]) ∧ Below w.heap.size w Wv) ⟨(((((Bx.at_ (by simp)).alloc _).alloc _).alloc _)), ((((Bx.at_ (by simp)).alloc _).alloc _)), (((Bx.at_ (by simp)).alloc _)), ((Bx.at_ (by simp))), (((((Below.refl _ w).alloc (by simp <;> omega) _).alloc (by simp <;> omega) _).alloc (by simp <;> omega) _).alloc (by simp <;> omega) _)⟩ ?_
        rintro wa1 ⟨g1, g2, g3, g7, b⟩
        replace B := B.trans (b.mono B.size); clear b
        have c_g1 := g1.cell; have f_g1 := g1.free; have a_g1 := fun o => (g1.alloc o).cell; have d_g1 := fun o o2 => ((g1.alloc o).alloc o2).cell; have e_g1 := fun o => (g1.alloc o).free
        have c_g2 := g2.cell; have f_g2 := g2.free; have a_g2 := fun o => (g2.alloc o).cell; have d_g2 := fun o o2 => ((g2.alloc o).alloc o2).cell; have e_g2 := fun o => (g2.alloc o).free
        have c_g3 := g3.cell; have f_g3 := g3.free; have a_g3 := fun o => (g3.alloc o).cell; have d_g3 := fun o o2 => ((g3.alloc o).alloc o2).cell; have e_g3 := fun o => (g3.alloc o).free
        have c_g7 := g7.cell; have f_g7 := g7.free; have a_g7 := fun o => (g7.alloc o).cell; have d_g7 := fun o o2 => ((g7.alloc o).alloc o2).cell; have e_g7 := fun o => (g7.alloc o).free
        have hp1 := g7.lt
        have hz1 := B.size
        go_wp2_with fail
        refine (FT.out _ (H.out.below B)).mono ?_
        rintro e wa2 ⟨t', o', s', gf, rfl, om, of_, b⟩
        try clear c_g1 f_g1 a_g1 d_g1 e_g1
        replace g1 := g1.below b; have c_g1 := g1.cell; have f_g1 := g1.free; have a_g1 := fun o => (g1.alloc o).cell; have d_g1 := fun o o2 => ((g1.alloc o).alloc o2).cell; have e_g1 := fun o => (g1.alloc o).free; try clear c_g2 f_g2 a_g2 d_g2 e_g2
        replace g2 := g2.below b; have c_g2 := g2.cell; have f_g2 := g2.free; have a_g2 := fun o => (g2.alloc o).cell; have d_g2 := fun o o2 => ((g2.alloc o).alloc o2).cell; have e_g2 := fun o => (g2.alloc o).free; try clear c_g3 f_g3 a_g3 d_g3 e_g3
        replace g3 := g3.below b; have c_g3 := g3.cell; have f_g3 := g3.free; have a_g3 := fun o => (g3.alloc o).cell; have d_g3 := fun o o2 => ((g3.alloc o).alloc o2).cell; have e_g3 := fun o => (g3.alloc o).free; try clear c_g7 f_g7 a_g7 d_g7 e_g7
        replace g7 := g7.below b; have c_g7 := g7.cell; have f_g7 := g7.free; have a_g7 := fun o => (g7.alloc o).cell; have d_g7 := fun o o2 => ((g7.alloc o).alloc o2).cell; have e_g7 := fun o => (g7.alloc o).free; replace B := B.trans (b.mono B.size); clear b
        obtain ⟨⟨tA, tn, tc, rfl⟩, ⟨oA, on, oc, rfl⟩, ⟨sA, sn, sc, rfl⟩⟩ := om.forms
        have hgf := (of_.cell HO.out.1 HO.out.2).2.2
        have m0 := (of_.cell HO.out.1 HO.out.2).1
        go_upto_region 2 with (fail)
        refine wp_gen (fun Wv => Bx Wv (wa2.heap.size) (26) (#[.slice tA tn tc, .slice oA on oc, .slice sA sn sc]) ∧ Below wa2.heap.size wa2 Wv) ⟨((Bx.at_ (by simp))), ((Below.refl _ wa2).alloc (by simp <;> omega) _)⟩ ?_
        rintro wa3 ⟨g4, b⟩
        try clear c_g1 f_g1 a_g1 d_g1 e_g1
        replace g1 := g1.below b; have c_g1 := g1.cell; have f_g1 := g1.free; have a_g1 := fun o => (g1.alloc o).cell; have d_g1 := fun o o2 => ((g1.alloc o).alloc o2).cell; have e_g1 := fun o => (g1.alloc o).free; try clear c_g2 f_g2 a_g2 d_g2 e_g2
        replace g2 := g2.below b; have c_g2 := g2.cell; have f_g2 := g2.free; have a_g2 := fun o => (g2.alloc o).cell; have d_g2 := fun o o2 => ((g2.alloc o).alloc o2).cell; have e_g2 := fun o => (g2.alloc o).free; try clear c_g3 f_g3 a_g3 d_g3 e_g3
        replace g3 := g3.below b; have c_g3 := g3.cell; have f_g3 := g3.free; have a_g3 := fun o => (g3.alloc o).cell; have d_g3 := fun o o2 => ((g3.alloc o).alloc o2).cell; have e_g3 := fun o => (g3.alloc o).free; try clear c_g7 f_g7 a_g7 d_g7 e_g7
        replace g7 := g7.below b; have c_g7 := g7.cell; have f_g7 := g7.free; have a_g7 := fun o => (g7.alloc o).cell; have d_g7 := fun o o2 => ((g7.alloc o).alloc o2).cell; have e_g7 := fun o => (g7.alloc o).free; replace om := om.below b; replace of_ := of_.below b; replace m0 := cell_later b m0; replace B := B.trans (b.mono B.size); clear b
        have c_g4 := g4.cell; have f_g4 := g4.free; have a_g4 := fun o => (g4.alloc o).cell; have d_g4 := fun o o2 => ((g4.alloc o).alloc o2).cell; have e_g4 := fun o => (g4.alloc o).free
        go_wp2
        refine bodyPost_ret (v := .tuple #[.agg #[.slice none 0 0, .slice none 0 0, .slice none 0 0], .agg #[.int .i64 0, .int .i64 0], .int .i64 6]) (by simp [results, Try.results20, go_sem, c_g3, f_g3, c_g7, f_g7]) rfl ?_
        refine ⟨_, _, _, rfl, OwnM.nil _ _, ?_⟩
        (repeat (first | refine Below.setCell ?_ (by first | exact Nat.le_refl _ | (simp <;> omega)) _ | refine Below.alloc ?_ (by first | exact B.size | (have := B.size; simp <;> omega)) _)); exact B
      · have x0 : ((x.toNat : Int) == 0) = false := by rw [beq_eq_false_iff_ne]; intro e; exact hx0 (UInt64.toNat_inj.1 (by simpa using (by omega : x.toNat = 0)))
        have hxp : 0 < x.toNat := by have := (beq_eq_false_iff_ne.1 x0); omega
        obtain ⟨nn, hnn⟩ : ∃ nn : Int, nn = (x.toNat : Int) - 1 := ⟨_, rfl⟩
        have hw1 : IntKind.u64.wrap ((x.toNat : Int) - 1) = nn := by rw [hnn]; show ((x.toNat : Int) - 1) % 18446744073709551616 = _; omega
        have hw2 : IntKind.i64.wrap nn = nn := IntWalk.i64_in _ (by omega)
        obtain ⟨a, b, ok, m2, hHC, hway⟩ := handle_way (m := m) (n := nn) hchk (by omega)
        have HC := Lib.hid hHC; have HW := Lib.hid hway
        have hr1 : next m.slots = none → r = 23 := fun hn => by rw [hr, rootE, if_pos h0, ← hkd, if_pos hk, hfx, if_neg hx0, if_pos hn]
        have hr2 : ∀ k, next m.slots = some k → r = 0 := fun k hn => by rw [hr, rootE, if_pos h0, ← hkd, if_pos hk, hfx, if_neg hx0, if_neg (by rw [hn]; exact fun e => by cases e)]
        have HR1 := Lib.hid hr1; have HR2 := Lib.hid hr2; have HNO := Lib.hid hno
        have hyes : r = 0 → M = ⟨m.types, m.objs, givS m ((x.toNat - 1 : Nat) : Int) ((next m.slots).getD 0)⟩ ∧ hs = ((next m.slots).getD 0 : Nat) ∧ hg = (m.slots.getD ((next m.slots).getD 0) .none).gen + 1 := fun h => ⟨by rw [hM, rootM, ← hr, if_pos h, hfx], by rw [hhs, rootS, ← hr, if_pos h], by rw [hhg, rootG, ← hr, if_pos h]⟩
        have HYES := Lib.hid hyes
        have HNN := Lib.hid hnn; have HX1 := Lib.hid hxp
        clear hr hM hhs hhg hno h0 hown ho hx hfx hkd hk h hx0 hHC hway hr1 hr2 hyes hnn
        go_enter Try.func20, Try.ntmps20
        go_upto_region 1 with (fail)
        refine wp_gen (fun Wv => Bx Wv (w.heap.size) (26) (#[tv, ov, sv]) ∧ Bx Wv (w.heap.size + 1) (50) (#[.int .i64 sl, .int .i64 g]) ∧ Bx Wv (w.heap.size + 1 + 1) (26) (#[.slice none 0 0, .slice none 0 0, .slice none 0 0]) ∧ Bx Wv (w.heap.size + 1 + 1 + 1) (50) (#[.int .i64 0, .int .i64 0]) ∧ Below w.heap.size w Wv) ⟨(((((Bx.at_ (by simp)).alloc _).alloc _).alloc _)), ((((Bx.at_ (by simp)).alloc _).alloc _)), (((Bx.at_ (by simp)).alloc _)), ((Bx.at_ (by simp))), (((((Below.refl _ w).alloc (by simp <;> omega) _).alloc (by simp <;> omega) _).alloc (by simp <;> omega) _).alloc (by simp <;> omega) _)⟩ ?_
        rintro wa1 ⟨g1, g2, g3, g7, b⟩
        replace B := B.trans (b.mono B.size); clear b
        have c_g1 := g1.cell; have f_g1 := g1.free; have a_g1 := fun o => (g1.alloc o).cell; have d_g1 := fun o o2 => ((g1.alloc o).alloc o2).cell; have e_g1 := fun o => (g1.alloc o).free
        have c_g2 := g2.cell; have f_g2 := g2.free; have a_g2 := fun o => (g2.alloc o).cell; have d_g2 := fun o o2 => ((g2.alloc o).alloc o2).cell; have e_g2 := fun o => (g2.alloc o).free
        have c_g3 := g3.cell; have f_g3 := g3.free; have a_g3 := fun o => (g3.alloc o).cell; have d_g3 := fun o o2 => ((g3.alloc o).alloc o2).cell; have e_g3 := fun o => (g3.alloc o).free
        have c_g7 := g7.cell; have f_g7 := g7.free; have a_g7 := fun o => (g7.alloc o).cell; have d_g7 := fun o o2 => ((g7.alloc o).alloc o2).cell; have e_g7 := fun o => (g7.alloc o).free
        have hp1 := g7.lt
        have hz1 := B.size
        go_wp2_with fail
        refine (FT.out _ (H.out.below B)).mono ?_
        rintro e wa2 ⟨t', o', s', gf, rfl, om, of_, b⟩
        try clear c_g1 f_g1 a_g1 d_g1 e_g1
        replace g1 := g1.below b; have c_g1 := g1.cell; have f_g1 := g1.free; have a_g1 := fun o => (g1.alloc o).cell; have d_g1 := fun o o2 => ((g1.alloc o).alloc o2).cell; have e_g1 := fun o => (g1.alloc o).free; try clear c_g2 f_g2 a_g2 d_g2 e_g2
        replace g2 := g2.below b; have c_g2 := g2.cell; have f_g2 := g2.free; have a_g2 := fun o => (g2.alloc o).cell; have d_g2 := fun o o2 => ((g2.alloc o).alloc o2).cell; have e_g2 := fun o => (g2.alloc o).free; try clear c_g3 f_g3 a_g3 d_g3 e_g3
        replace g3 := g3.below b; have c_g3 := g3.cell; have f_g3 := g3.free; have a_g3 := fun o => (g3.alloc o).cell; have d_g3 := fun o o2 => ((g3.alloc o).alloc o2).cell; have e_g3 := fun o => (g3.alloc o).free; try clear c_g7 f_g7 a_g7 d_g7 e_g7
        replace g7 := g7.below b; have c_g7 := g7.cell; have f_g7 := g7.free; have a_g7 := fun o => (g7.alloc o).cell; have d_g7 := fun o o2 => ((g7.alloc o).alloc o2).cell; have e_g7 := fun o => (g7.alloc o).free; replace B := B.trans (b.mono B.size); clear b
        obtain ⟨⟨tA, tn, tc, rfl⟩, ⟨oA, on, oc, rfl⟩, ⟨sA, sn, sc, rfl⟩⟩ := om.forms
        have hgf := (of_.cell HO.out.1 HO.out.2).2.2
        have m0 := (of_.cell HO.out.1 HO.out.2).1
        go_upto_region 2 with (fail)
        refine wp_gen (fun Wv => Bx Wv (wa2.heap.size) (26) (#[.slice tA tn tc, .slice oA on oc, .slice sA sn sc]) ∧ Below wa2.heap.size wa2 Wv) ⟨((Bx.at_ (by simp))), ((Below.refl _ wa2).alloc (by simp <;> omega) _)⟩ ?_
        rintro wa3 ⟨g4, b⟩
        try clear c_g1 f_g1 a_g1 d_g1 e_g1
        replace g1 := g1.below b; have c_g1 := g1.cell; have f_g1 := g1.free; have a_g1 := fun o => (g1.alloc o).cell; have d_g1 := fun o o2 => ((g1.alloc o).alloc o2).cell; have e_g1 := fun o => (g1.alloc o).free; try clear c_g2 f_g2 a_g2 d_g2 e_g2
        replace g2 := g2.below b; have c_g2 := g2.cell; have f_g2 := g2.free; have a_g2 := fun o => (g2.alloc o).cell; have d_g2 := fun o o2 => ((g2.alloc o).alloc o2).cell; have e_g2 := fun o => (g2.alloc o).free; try clear c_g3 f_g3 a_g3 d_g3 e_g3
        replace g3 := g3.below b; have c_g3 := g3.cell; have f_g3 := g3.free; have a_g3 := fun o => (g3.alloc o).cell; have d_g3 := fun o o2 => ((g3.alloc o).alloc o2).cell; have e_g3 := fun o => (g3.alloc o).free; try clear c_g7 f_g7 a_g7 d_g7 e_g7
        replace g7 := g7.below b; have c_g7 := g7.cell; have f_g7 := g7.free; have a_g7 := fun o => (g7.alloc o).cell; have d_g7 := fun o o2 => ((g7.alloc o).alloc o2).cell; have e_g7 := fun o => (g7.alloc o).free; replace om := om.below b; replace of_ := of_.below b; replace m0 := cell_later b m0; replace B := B.trans (b.mono B.size); clear b
        have c_g4 := g4.cell; have f_g4 := g4.free; have a_g4 := fun o => (g4.alloc o).cell; have d_g4 := fun o o2 => ((g4.alloc o).alloc o2).cell; have e_g4 := fun o => (g4.alloc o).free
        go_upto_region 8 with (fail)
        have hp2 := g4.lt; have hp3 := g7.lt
        have hs3 := ne_of_or (own_not_bx om.s g3 (by decide)); have hs7 := ne_of_or (own_not_bx om.s g7 (by decide)); have hs4 := ne_of_or (own_not_bx om.s g4 (by decide))
        have hsgf : (Value.slice sA sn sc).ownBlock ≠ some gf := by
          obtain ⟨vs, nf, cf, _, _, f4, _, f6⟩ := of_
          exact ne_of_or (own_unlike om.s (f4 n' _ _ f6 HO.out.1) (by decide))
        have hrow : ∀ k, (Value.slice sA sn sc).ownBlock = some k → k < wa3.heap.size := fun k hk => (om.s.lt k hk).2
        have hzz := B.size
        have hB0 := hz1
        have START : FHandle w (fun c W => OwnM W wa1.heap.size 48 (.slice tA tn tc) (.slice oA on oc) (.slice sA sn sc) (cond c m2 m)) [(w.heap.size + 1 + 1, 26, #[.slice none 0 0, .slice none 0 0, .slice none 0 0]), (w.heap.size + 1 + 1 + 1, 50, #[.int .i64 0, .int .i64 0]), (wa2.heap.size, 26, #[.slice tA tn tc, .slice oA on oc, .slice sA sn sc])] gf i x.toNat a b wa3.heap.size 0 (fun _ => false) wa3.drew :=
          ⟨⟨⟨om.t, om.o, om.s⟩, Nat.le_refl _⟩, B.drew, List.forall_mem_cons.2 ⟨g3, List.forall_mem_cons.2 ⟨g7, List.forall_mem_cons.2 ⟨g4, fun _ h => by cases h⟩⟩⟩, m0, (fun h => by cases h), (fun h => by cases h), (fun h => by cases h), (fun h => by cases h)⟩
        have HSTART := Lib.hid START
        clear START om of_ g1 g2 g3 g4 g7 m0 B c_g1 c_g2 f_g1 f_g2 a_g1 a_g2 d_g1 d_g2 e_g1 e_g2 c_g3 f_g3 a_g3 d_g3 e_g3 c_g4 f_g4 a_g4 d_g4 e_g4 c_g7 f_g7 a_g7 d_g7 e_g7
        refine wp_region_handle w (fun c W => OwnM W wa1.heap.size 48 (.slice tA tn tc) (.slice oA on oc) (.slice sA sn sc) (cond c m2 m)) [(w.heap.size + 1 + 1, 26, #[.slice none 0 0, .slice none 0 0, .slice none 0 0]), (w.heap.size + 1 + 1 + 1, 50, #[.int .i64 0, .int .i64 0]), (wa2.heap.size, 26, #[.slice tA tn tc, .slice oA on oc, .slice sA sn sc])] gf i x.toNat a b ok wa3.heap.size #[.agg #[.slice tA tn tc, .slice oA on oc, .slice sA sn sc], .int .i64 nn] (Value.slice sA sn sc).ownBlock
          (by kernel_rfl) (by kernel_rfl) (by kernel_rfl) (by kernel_rfl) HSTART.out hzz (List.forall_mem_cons.2 ⟨hs3, List.forall_mem_cons.2 ⟨hs7, List.forall_mem_cons.2 ⟨hs4, fun _ h => by cases h⟩⟩⟩) hsgf hrow (fun c W o h => h.below ((Below.refl _ W).alloc (Nat.le_refl _) _)) ?_ ?_
        · intro W hR hzW hBW
          have h1 : wa1.heap.size ≤ W.heap.size := by have := hgf; omega
          refine (HC.out _ _ _ _ W hR h1).mono fun e W' ⟨e1, e2, e3, e4⟩ => ⟨e1, e2, hBW.trans (e3.mono hz1), e4⟩
        · intro gq
          haveI : Nonempty (FXN (FHandle w (fun c W => OwnM W wa1.heap.size 48 (.slice tA tn tc) (.slice oA on oc) (.slice sA sn sc) (cond c m2 m)) [(w.heap.size + 1 + 1, 26, #[.slice none 0 0, .slice none 0 0, .slice none 0 0]), (w.heap.size + 1 + 1 + 1, 50, #[.int .i64 0, .int .i64 0]), (wa2.heap.size, 26, #[.slice tA tn tc, .slice oA on oc, .slice sA sn sc])] gf i x.toNat a b wa3.heap.size gq)) := ⟨⟨_, _, FHandle.agree (by simp) HSTART.out⟩⟩
          have ca := fun x : FXN (FHandle w (fun c W => OwnM W wa1.heap.size 48 (.slice tA tn tc) (.slice oA on oc) (.slice sA sn sc) (cond c m2 m)) [(w.heap.size + 1 + 1, 26, #[.slice none 0 0, .slice none 0 0, .slice none 0 0]), (w.heap.size + 1 + 1 + 1, 50, #[.int .i64 0, .int .i64 0]), (wa2.heap.size, 26, #[.slice tA tn tc, .slice oA on oc, .slice sA sn sc])] gf i x.toNat a b wa3.heap.size gq) => (by obtain ⟨_, h⟩ := x.h; exact h.2.2.1 (wa2.heap.size, 26, #[.slice tA tn tc, .slice oA on oc, .slice sA sn sc]) (by simp) : Bx x.W wa2.heap.size 26 #[.slice tA tn tc, .slice oA on oc, .slice sA sn sc]).cell
          have cb := fun y : FXN (FHandle w (fun c W => OwnM W wa1.heap.size 48 (.slice tA tn tc) (.slice oA on oc) (.slice sA sn sc) (cond c m2 m)) [(w.heap.size + 1 + 1, 26, #[.slice none 0 0, .slice none 0 0, .slice none 0 0]), (w.heap.size + 1 + 1 + 1, 50, #[.int .i64 0, .int .i64 0]), (wa2.heap.size, 26, #[.slice tA tn tc, .slice oA on oc, .slice sA sn sc])] gf i x.toNat a b wa3.heap.size gq) => (by obtain ⟨_, h⟩ := y.h; exact h.2.2.2.1 : y.W.cell? ⟨gf, i, none⟩ = some (.int .u64 x.toNat))
          iterate 2 (refine wpM_read FHandle.dep rfl (by decide) (by decide) ?_; go_big_quiet_step (fail); refine wpQuiet_nil ?_)
          refine wpM_pure FHandle.dep (by decide) (by decide) rfl (v := .pointer (some ⟨gf, i, none⟩)) (fun W => by simp [execOp, Act.eval, go_sem]) ?_
          simp only [Act.put, List.setIfInBounds_toArray, List.set_cons_zero, List.set_cons_succ]
          iterate 3 (refine wpM_read FHandle.dep rfl (by decide) (by decide) ?_; go_big_quiet_step (fail); refine wpQuiet_nil ?_)
          refine wpM_new (by decide) rfl (by show TH _ 6 _; unfold TH; rw [if_pos rfl]; intro W; simp [execOp, resolve, invoke, Act.eval, go_sem]) ?_
          simp only [Act.put, List.setIfInBounds_toArray, List.set_cons_zero, List.set_cons_succ]
          rw [show valH (.tuple #[.agg #[.int .i64 a, .int .i64 b], .bool ok]) gq 6 = .tuple #[.agg #[.int .i64 a, .int .i64 b], .bool ok] from rfl]
          iterate 3 (refine wpM_read FHandle.dep rfl (by decide) (by decide) ?_; go_big_quiet_step (fail); refine wpQuiet_nil ?_)
          refine wpM_new (by decide) rfl (by show TH _ 10 _; unfold TH; rw [if_neg (by decide)]; intro W; simp [execOp, go_sem]) ?_
          simp only [Act.put, List.setIfInBounds_toArray, List.set_cons_zero, List.set_cons_succ]
          rw [show valH (.tuple #[.agg #[.int .i64 a, .int .i64 b], .bool ok]) gq 10 = .pointer (some ⟨gq, 0, none⟩) from rfl]
          refine wpM_store FHandle.dep (by decide) rfl 50 (.tmp 13) (.tmp 50) rfl (by rfl) (p := .pointer (some ⟨gq, 0, none⟩)) (u := .agg #[.int .i64 a, .int .i64 b]) (by rfl) (by rfl) [10] (by kernel_rfl) (fun f W hF h0 h1 => ?_) ?_
          · obtain ⟨⟨k0, k1, k2⟩, h2⟩ := FHandle.store hF hzz (h1 10 (by simp)) h0 (fun c W p cs u hg hR => OwnM.setH hR hg)
            refine ⟨_, ?_, h2⟩
            simp [go_sem, k0, k1, k2]
          simp only [Act.put, List.setIfInBounds_toArray, List.set_cons_zero, List.set_cons_succ]
          refine wpM_read FHandle.dep rfl (by decide) (by decide) ?_; go_big_quiet_step (fail); refine wpQuiet_nil ?_
          refine wpM_nil ?_
          intro wy hF
          clear this ca cb HSTART
          obtain ⟨⟨om, _⟩, B, hps, _, _, h6, _, h8⟩ := hF
          have g3 := hps _ List.mem_cons_self
          have g7 := hps _ (List.mem_cons_of_mem _ List.mem_cons_self)
          have g4 := hps _ (List.mem_cons_of_mem _ (List.mem_cons_of_mem _ List.mem_cons_self))
          have g9 := h8 rfl
          obtain ⟨h6a, h6b, h6c⟩ := h6 rfl
          have hq3 := h6a _ List.mem_cons_self
          have hq7 := h6a _ (List.mem_cons_of_mem _ List.mem_cons_self)
          dsimp only at g3 g7 g4 g9 hq3 hq7 om
          rw [show (cond true m2 m) = m2 from rfl] at om
          clear hps h6 h8 h6a
          cases ok
          · have hn : next m.slots = none := by
              rcases HW.out with ⟨_, h⟩ | ⟨h, _⟩
              · exact h
              · cases h
            obtain rfl : r = 23 := HR1.out hn
            obtain ⟨rfl, rfl, rfl⟩ := HNO.out (by decide)
            have c3 := g3.cell; have f3 := g3.free; have c7 := g7.cell; have f7 := g7.free
            go_wp2
            refine bodyPost_ret (v := .tuple #[.agg #[.slice none 0 0, .slice none 0 0, .slice none 0 0], .agg #[.int .i64 0, .int .i64 0], .int .i64 23]) (by simp [results, Try.results20, go_sem, c3, f3, c7, f7]) rfl ?_
            refine ⟨_, _, _, rfl, OwnM.nil _ _, ?_⟩
            (repeat (first | refine Below.setCell ?_ (by first | exact Nat.le_refl _ | (simp <;> omega)) _ | refine Below.alloc ?_ (by first | exact B.size | (have := B.size; simp <;> omega)) _)); exact B
          · obtain ⟨k, s, hnx, hsk, ea, eb, em⟩ : ∃ k s, next m.slots = some k ∧ m.slots[k]? = some s ∧ a = (k : Int) ∧ b = s.gen + 1 ∧ m2 = ⟨m.types, m.objs, m.slots.set k ⟨s.gen + 1, true, nn⟩⟩ := by
              rcases HW.out with ⟨h, _⟩ | ⟨_, h⟩
              · cases h
              · exact h
            obtain rfl : r = 0 := HR2.out k hnx
            obtain ⟨e1, e2, e3⟩ := HYES.out rfl
            rw [hnx] at e1 e2 e3
            have hgd : m.slots.getD k .none = s := by simp [List.getD_eq_getElem?_getD, hsk]
            have hMM : M = m2 := by
              rw [e1, em]
              show (⟨m.types, m.objs, m.slots.set k ⟨(m.slots.getD k .none).gen + 1, true, _⟩⟩ : Mo) = _
              rw [hgd]
              have := HNN.out; have := HX1.out
              rw [show ((x.toNat - 1 : Nat) : Int) = nn by omega]
            have hha : hs = a := by rw [e2, ea]; rfl
            have hhb : hg = b := by rw [e3, eb]; show (m.slots.getD k .none).gen + 1 = _; rw [hgd]
            subst hMM; subst hha; subst hhb
            clear e1 e2 e3 ea eb em hgd hnx hsk
            go_upto_region 11 with (fail)
            have START : (FTwoR w wa1.heap.size (.slice tA tn tc) (.slice oA on oc) (.slice sA sn sc) M (w.heap.size + 1 + 1 + 1) wa2.heap.size gq (w.heap.size + 1 + 1) hs hg) (fun _ => false) wy.drew := ⟨B.drew, ⟨om.t, om.o, om.s⟩, g3, g7, g4, g9⟩
            have n4a : wa2.heap.size ≠ w.heap.size + 1 + 1 := by have := hgf; omega
            have n4b : wa2.heap.size ≠ w.heap.size + 1 + 1 + 1 := by have := hgf; omega
            haveI : Nonempty (FXN (FTwoR w wa1.heap.size (.slice tA tn tc) (.slice oA on oc) (.slice sA sn sc) M (w.heap.size + 1 + 1 + 1) wa2.heap.size gq (w.heap.size + 1 + 1) hs hg)) := ⟨⟨_, _, START⟩⟩
            have ca := fun x : FXN (FTwoR w wa1.heap.size (.slice tA tn tc) (.slice oA on oc) (.slice sA sn sc) M (w.heap.size + 1 + 1 + 1) wa2.heap.size gq (w.heap.size + 1 + 1) hs hg) => (by obtain ⟨_, h⟩ := x.h; exact h.2.2.2.2.1 : Bx x.W wa2.heap.size 26 #[.slice tA tn tc, .slice oA on oc, .slice sA sn sc]).cell
            have cb := fun x : FXN (FTwoR w wa1.heap.size (.slice tA tn tc) (.slice oA on oc) (.slice sA sn sc) M (w.heap.size + 1 + 1 + 1) wa2.heap.size gq (w.heap.size + 1 + 1) hs hg) => (by obtain ⟨_, h⟩ := x.h; exact h.2.2.2.2.2 : Bx x.W gq 50 #[.int .i64 hs, .int .i64 hg]).cell
            clear om B g3 g7 g4 g9
            refine wp_region_N (FTwoR w wa1.heap.size (.slice tA tn tc) (.slice oA on oc) (.slice sA sn sc) M (w.heap.size + 1 + 1 + 1) wa2.heap.size gq (w.heap.size + 1 + 1) hs hg) [2, 3] FTwoR.dep (by kernel_rfl) (by kernel_rfl) (by kernel_rfl) START ?_
            iterate 2 (refine wpN_read FTwoR.dep rfl (by decide) ?_; go_big_quiet_step (fail); refine wpQuiet_nil ?_)
            refine wpN_storeD FTwoR.dep rfl 26 (.tmp 6) (.tmp 56) rfl (by rfl) (p := .pointer (some ⟨w.heap.size + 1 + 1, 0, none⟩)) (u := .agg #[.slice tA tn tc, .slice oA on oc, .slice sA sn sc]) (by rfl) (by rfl) [] (by kernel_rfl) (fun f W hF h0 h1 => ?_) ?_
            · obtain ⟨k0, k1, h2⟩ := FTwoR.store2 hF h0 (by omega) (by omega) n4a hq3
              refine ⟨_, ?_, h2⟩
              simp [go_sem, k0, k1]
            simp only [Act.put, List.setIfInBounds_toArray, List.set_cons_zero, List.set_cons_succ]
            refine wpN_storeD FTwoR.dep rfl 50 (.tmp 7) (.tmp 57) rfl (by rfl) (p := .pointer (some ⟨w.heap.size + 1 + 1 + 1, 0, none⟩)) (u := .agg #[.int .i64 hs, .int .i64 hg]) (by rfl) (by rfl) [] (by kernel_rfl) (fun f W hF h0 h1 => ?_) ?_
            · obtain ⟨k0, k1, h2⟩ := FTwoR.store3 hF h0 (by omega) (by omega) n4b hq7
              refine ⟨_, ?_, h2⟩
              simp [go_sem, k0, k1]
            simp only [Act.put, List.setIfInBounds_toArray, List.set_cons_zero, List.set_cons_succ]
            iterate 1 (refine wpN_read FTwoR.dep rfl (by decide) ?_; go_big_quiet_step (fail); refine wpQuiet_nil ?_)
            show ∀ w', _ → _
            intro w' hF
            obtain ⟨B, om, g3, g7, _, _⟩ := hF
            have c3 := g3.cell; have c7 := g7.cell
            simp only [if_true] at c3 c7
            clear this ca cb START
            go_wp2
            refine bodyPost_ret (v := .tuple #[.agg #[.slice tA tn tc, .slice oA on oc, .slice sA sn sc], .agg #[.int .i64 hs, .int .i64 hg], .int .i64 0]) (by simp [results, Try.results20, go_sem, c3, c7]) rfl ?_
            exact ⟨_, _, _, rfl, om.mono (by first | assumption | omega), B⟩
    · have hr1 : r = 42 := by rw [hr, rootE, if_pos h0, ← hkd, if_neg hk]
      obtain ⟨e1, e2, e3⟩ := hno (by rw [hr1]; decide)
      have k3 : ((kd.toNat : Int) != 3) = true := by rw [bne_iff_ne]; omega
      subst hr1; subst e1; subst e2; subst e3
      clear hr hM hhs hhg hno h0 hown ho hx hfx hkd hk h hchk
      go_enter Try.func20, Try.ntmps20
      go_upto_region 1 with (fail)
      refine wp_gen (fun Wv => Bx Wv (w.heap.size) (26) (#[tv, ov, sv]) ∧ Bx Wv (w.heap.size + 1) (50) (#[.int .i64 sl, .int .i64 g]) ∧ Bx Wv (w.heap.size + 1 + 1) (26) (#[.slice none 0 0, .slice none 0 0, .slice none 0 0]) ∧ Bx Wv (w.heap.size + 1 + 1 + 1) (50) (#[.int .i64 0, .int .i64 0]) ∧ Below w.heap.size w Wv) ⟨(((((Bx.at_ (by simp)).alloc _).alloc _).alloc _)), ((((Bx.at_ (by simp)).alloc _).alloc _)), (((Bx.at_ (by simp)).alloc _)), ((Bx.at_ (by simp))), (((((Below.refl _ w).alloc (by simp <;> omega) _).alloc (by simp <;> omega) _).alloc (by simp <;> omega) _).alloc (by simp <;> omega) _)⟩ ?_
      rintro wa1 ⟨g1, g2, g3, g7, b⟩
      replace B := B.trans (b.mono B.size); clear b
      have c_g1 := g1.cell; have f_g1 := g1.free; have a_g1 := fun o => (g1.alloc o).cell; have d_g1 := fun o o2 => ((g1.alloc o).alloc o2).cell; have e_g1 := fun o => (g1.alloc o).free
      have c_g2 := g2.cell; have f_g2 := g2.free; have a_g2 := fun o => (g2.alloc o).cell; have d_g2 := fun o o2 => ((g2.alloc o).alloc o2).cell; have e_g2 := fun o => (g2.alloc o).free
      have c_g3 := g3.cell; have f_g3 := g3.free; have a_g3 := fun o => (g3.alloc o).cell; have d_g3 := fun o o2 => ((g3.alloc o).alloc o2).cell; have e_g3 := fun o => (g3.alloc o).free
      have c_g7 := g7.cell; have f_g7 := g7.free; have a_g7 := fun o => (g7.alloc o).cell; have d_g7 := fun o o2 => ((g7.alloc o).alloc o2).cell; have e_g7 := fun o => (g7.alloc o).free
      have hp1 := g7.lt
      have hz1 := B.size
      go_wp2_with fail
      refine (FT.out _ (H.out.below B)).mono ?_
      rintro e wa2 ⟨t', o', s', gf, rfl, om, of_, b⟩
      try clear c_g1 f_g1 a_g1 d_g1 e_g1
      replace g1 := g1.below b; have c_g1 := g1.cell; have f_g1 := g1.free; have a_g1 := fun o => (g1.alloc o).cell; have d_g1 := fun o o2 => ((g1.alloc o).alloc o2).cell; have e_g1 := fun o => (g1.alloc o).free; try clear c_g2 f_g2 a_g2 d_g2 e_g2
      replace g2 := g2.below b; have c_g2 := g2.cell; have f_g2 := g2.free; have a_g2 := fun o => (g2.alloc o).cell; have d_g2 := fun o o2 => ((g2.alloc o).alloc o2).cell; have e_g2 := fun o => (g2.alloc o).free; try clear c_g3 f_g3 a_g3 d_g3 e_g3
      replace g3 := g3.below b; have c_g3 := g3.cell; have f_g3 := g3.free; have a_g3 := fun o => (g3.alloc o).cell; have d_g3 := fun o o2 => ((g3.alloc o).alloc o2).cell; have e_g3 := fun o => (g3.alloc o).free; try clear c_g7 f_g7 a_g7 d_g7 e_g7
      replace g7 := g7.below b; have c_g7 := g7.cell; have f_g7 := g7.free; have a_g7 := fun o => (g7.alloc o).cell; have d_g7 := fun o o2 => ((g7.alloc o).alloc o2).cell; have e_g7 := fun o => (g7.alloc o).free; replace B := B.trans (b.mono B.size); clear b
      obtain ⟨⟨tA, tn, tc, rfl⟩, ⟨oA, on, oc, rfl⟩, ⟨sA, sn, sc, rfl⟩⟩ := om.forms
      have hgf := (of_.cell HO.out.1 HO.out.2).2.2
      have m0 := (of_.cell HO.out.1 HO.out.2).1
      go_upto_region 2 with (fail)
      refine wp_gen (fun Wv => Bx Wv (wa2.heap.size) (26) (#[.slice tA tn tc, .slice oA on oc, .slice sA sn sc]) ∧ Below wa2.heap.size wa2 Wv) ⟨((Bx.at_ (by simp))), ((Below.refl _ wa2).alloc (by simp <;> omega) _)⟩ ?_
      rintro wa3 ⟨g4, b⟩
      try clear c_g1 f_g1 a_g1 d_g1 e_g1
      replace g1 := g1.below b; have c_g1 := g1.cell; have f_g1 := g1.free; have a_g1 := fun o => (g1.alloc o).cell; have d_g1 := fun o o2 => ((g1.alloc o).alloc o2).cell; have e_g1 := fun o => (g1.alloc o).free; try clear c_g2 f_g2 a_g2 d_g2 e_g2
      replace g2 := g2.below b; have c_g2 := g2.cell; have f_g2 := g2.free; have a_g2 := fun o => (g2.alloc o).cell; have d_g2 := fun o o2 => ((g2.alloc o).alloc o2).cell; have e_g2 := fun o => (g2.alloc o).free; try clear c_g3 f_g3 a_g3 d_g3 e_g3
      replace g3 := g3.below b; have c_g3 := g3.cell; have f_g3 := g3.free; have a_g3 := fun o => (g3.alloc o).cell; have d_g3 := fun o o2 => ((g3.alloc o).alloc o2).cell; have e_g3 := fun o => (g3.alloc o).free; try clear c_g7 f_g7 a_g7 d_g7 e_g7
      replace g7 := g7.below b; have c_g7 := g7.cell; have f_g7 := g7.free; have a_g7 := fun o => (g7.alloc o).cell; have d_g7 := fun o o2 => ((g7.alloc o).alloc o2).cell; have e_g7 := fun o => (g7.alloc o).free; replace om := om.below b; replace of_ := of_.below b; replace m0 := cell_later b m0; replace B := B.trans (b.mono B.size); clear b
      have c_g4 := g4.cell; have f_g4 := g4.free; have a_g4 := fun o => (g4.alloc o).cell; have d_g4 := fun o o2 => ((g4.alloc o).alloc o2).cell; have e_g4 := fun o => (g4.alloc o).free
      go_wp2
      refine bodyPost_ret (v := .tuple #[.agg #[.slice none 0 0, .slice none 0 0, .slice none 0 0], .agg #[.int .i64 0, .int .i64 0], .int .i64 42]) (by simp [results, Try.results20, go_sem, c_g3, f_g3, c_g7, f_g7]) rfl ?_
      refine ⟨_, _, _, rfl, OwnM.nil _ _, ?_⟩
      (repeat (first | refine Below.setCell ?_ (by first | exact Nat.le_refl _ | (simp <;> omega)) _ | refine Below.alloc ?_ (by first | exact B.size | (have := B.size; simp <;> omega)) _)); exact B
  · have hr1 : r = kErrF m sl g n := by rw [hr, rootE, if_neg h0]
    have FT := Lib.hid (fun w h => field_no tv ov sv m sl g n r hr1 (by rw [hr1]; exact h0) w h)
    obtain ⟨e1, e2, e3⟩ := hno (by rw [hr1]; exact h0)
    have hne : (r != 0) = true := by rw [bne_iff_ne, hr1]; exact h0
    subst e1; subst e2; subst e3
    clear hr hM hhs hhg hr1 h0 h hno
    go_enter Try.func20, Try.ntmps20
    go_upto_region 1 with (fail)
    refine wp_gen (fun Wv => Bx Wv (w.heap.size) (26) (#[tv, ov, sv]) ∧ Bx Wv (w.heap.size + 1) (50) (#[.int .i64 sl, .int .i64 g]) ∧ Bx Wv (w.heap.size + 1 + 1) (26) (#[.slice none 0 0, .slice none 0 0, .slice none 0 0]) ∧ Bx Wv (w.heap.size + 1 + 1 + 1) (50) (#[.int .i64 0, .int .i64 0]) ∧ Below w.heap.size w Wv) ⟨(((((Bx.at_ (by simp)).alloc _).alloc _).alloc _)), ((((Bx.at_ (by simp)).alloc _).alloc _)), (((Bx.at_ (by simp)).alloc _)), ((Bx.at_ (by simp))), (((((Below.refl _ w).alloc (by simp <;> omega) _).alloc (by simp <;> omega) _).alloc (by simp <;> omega) _).alloc (by simp <;> omega) _)⟩ ?_
    rintro wa1 ⟨g1, g2, g3, g7, b⟩
    replace B := B.trans (b.mono B.size); clear b
    have c_g1 := g1.cell; have f_g1 := g1.free; have a_g1 := fun o => (g1.alloc o).cell; have d_g1 := fun o o2 => ((g1.alloc o).alloc o2).cell; have e_g1 := fun o => (g1.alloc o).free
    have c_g2 := g2.cell; have f_g2 := g2.free; have a_g2 := fun o => (g2.alloc o).cell; have d_g2 := fun o o2 => ((g2.alloc o).alloc o2).cell; have e_g2 := fun o => (g2.alloc o).free
    have c_g3 := g3.cell; have f_g3 := g3.free; have a_g3 := fun o => (g3.alloc o).cell; have d_g3 := fun o o2 => ((g3.alloc o).alloc o2).cell; have e_g3 := fun o => (g3.alloc o).free
    have c_g7 := g7.cell; have f_g7 := g7.free; have a_g7 := fun o => (g7.alloc o).cell; have d_g7 := fun o o2 => ((g7.alloc o).alloc o2).cell; have e_g7 := fun o => (g7.alloc o).free
    go_wp2_with fail
    refine (FT.out _ (H.out.below B)).mono ?_
    rintro e wa2 ⟨rfl, b⟩
    try clear c_g1 f_g1 a_g1 d_g1 e_g1
    replace g1 := g1.below b; have c_g1 := g1.cell; have f_g1 := g1.free; have a_g1 := fun o => (g1.alloc o).cell; have d_g1 := fun o o2 => ((g1.alloc o).alloc o2).cell; have e_g1 := fun o => (g1.alloc o).free; try clear c_g2 f_g2 a_g2 d_g2 e_g2
    replace g2 := g2.below b; have c_g2 := g2.cell; have f_g2 := g2.free; have a_g2 := fun o => (g2.alloc o).cell; have d_g2 := fun o o2 => ((g2.alloc o).alloc o2).cell; have e_g2 := fun o => (g2.alloc o).free; try clear c_g3 f_g3 a_g3 d_g3 e_g3
    replace g3 := g3.below b; have c_g3 := g3.cell; have f_g3 := g3.free; have a_g3 := fun o => (g3.alloc o).cell; have d_g3 := fun o o2 => ((g3.alloc o).alloc o2).cell; have e_g3 := fun o => (g3.alloc o).free; try clear c_g7 f_g7 a_g7 d_g7 e_g7
    replace g7 := g7.below b; have c_g7 := g7.cell; have f_g7 := g7.free; have a_g7 := fun o => (g7.alloc o).cell; have d_g7 := fun o o2 => ((g7.alloc o).alloc o2).cell; have e_g7 := fun o => (g7.alloc o).free; replace B := B.trans (b.mono B.size); clear b
    go_upto_region 2 with (fail)
    refine wp_gen (fun Wv => Bx Wv (wa2.heap.size) (26) (#[.slice none 0 0, .slice none 0 0, .slice none 0 0]) ∧ Below wa2.heap.size wa2 Wv) ⟨((Bx.at_ (by simp))), ((Below.refl _ wa2).alloc (by simp <;> omega) _)⟩ ?_
    rintro wa3 ⟨g4, b⟩
    try clear c_g1 f_g1 a_g1 d_g1 e_g1
    replace g1 := g1.below b; have c_g1 := g1.cell; have f_g1 := g1.free; have a_g1 := fun o => (g1.alloc o).cell; have d_g1 := fun o o2 => ((g1.alloc o).alloc o2).cell; have e_g1 := fun o => (g1.alloc o).free; try clear c_g2 f_g2 a_g2 d_g2 e_g2
    replace g2 := g2.below b; have c_g2 := g2.cell; have f_g2 := g2.free; have a_g2 := fun o => (g2.alloc o).cell; have d_g2 := fun o o2 => ((g2.alloc o).alloc o2).cell; have e_g2 := fun o => (g2.alloc o).free; try clear c_g3 f_g3 a_g3 d_g3 e_g3
    replace g3 := g3.below b; have c_g3 := g3.cell; have f_g3 := g3.free; have a_g3 := fun o => (g3.alloc o).cell; have d_g3 := fun o o2 => ((g3.alloc o).alloc o2).cell; have e_g3 := fun o => (g3.alloc o).free; try clear c_g7 f_g7 a_g7 d_g7 e_g7
    replace g7 := g7.below b; have c_g7 := g7.cell; have f_g7 := g7.free; have a_g7 := fun o => (g7.alloc o).cell; have d_g7 := fun o o2 => ((g7.alloc o).alloc o2).cell; have e_g7 := fun o => (g7.alloc o).free; replace B := B.trans (b.mono B.size); clear b
    have c_g4 := g4.cell; have f_g4 := g4.free; have a_g4 := fun o => (g4.alloc o).cell; have d_g4 := fun o o2 => ((g4.alloc o).alloc o2).cell; have e_g4 := fun o => (g4.alloc o).free
    go_wp2
    refine bodyPost_ret (v := .tuple #[.agg #[.slice none 0 0, .slice none 0 0, .slice none 0 0], .agg #[.int .i64 0, .int .i64 0], .int .i64 r]) (by simp [results, Try.results20, go_sem, c_g3, f_g3, c_g7, f_g7]) rfl ?_
    refine ⟨_, _, _, rfl, OwnM.nil _ _, ?_⟩
    (repeat (first | refine Below.setCell ?_ (by first | exact Nat.le_refl _ | (simp <;> omega)) _ | refine Below.alloc ?_ (by first | exact B.size | (have := B.size; simp <;> omega)) _)); exact B
theorem Root20_any (tv ov sv : Value) (m : Mo) (sl g n : Int) (M : Mo) (r hs hg : Int) (hM : M = rootM m sl g n) (hr : r = rootE m sl g n) (hhs : hs = rootS m sl g n) (hhg : hg = rootG m sl g n) (w : World) (h : Mod w tv ov sv m) :
    Calls Try.prog 20 #[.agg #[tv, ov, sv], .agg #[.int .i64 sl, .int .i64 g], .int .i64 n] w fun e w' => ∃ t' o' s', e = .returned (.tuple #[.agg #[t', o', s'], .agg #[.int .i64 hs, .int .i64 hg], .int .i64 r]) ∧ Mod w' t' o' s' M ∧ Below w.heap.size w w' :=
  (Root20_own tv ov sv m sl g n M r hs hg hM hr hhs hhg w h).mono fun e w' ⟨t', o', s', h1, h2, h3⟩ => ⟨t', o', s', h1, h2.rd, h3⟩
end Go.Proofs.Yteejianjjpdimaa
namespace Go.Proofs.Yteejianjjpdimaa
open Go.RowKit L02 L13 L18 L20
end Go.Proofs.Yteejianjjpdimaa
namespace Go.Proofs.Yteejianjjpdimaa
open Go.RowKit L02 L13 L18 L20
end Go.Proofs.Yteejianjjpdimaa
namespace Go.Proofs.Yteejianjjpdimaa
open Go.RowKit L02 L13 L18 L20
end Go.Proofs.Yteejianjjpdimaa
namespace Go.Proofs.Yteejianjjpdimaa
open Go.RowKit L02 L13 L18 L20
end Go.Proofs.Yteejianjjpdimaa
namespace Go.Proofs.Yteejianjjpdimaa
open Go.RowKit L02 L13 L18 L20
end Go.Proofs.Yteejianjjpdimaa
namespace Go.Proofs.Yteejianjjpdimaa
open Go.RowKit L02 L13 L18 L20
theorem Mod.forms {w : World} {tv ov sv : Value} {m : Mo} (h : Mod w tv ov sv m) : (∃ A n c, tv = .slice A n c) ∧ (∃ A n c, ov = .slice A n c) ∧ ∃ A n c, sv = .slice A n c := by
  obtain ⟨⟨_, _, ⟨A, c, e, _⟩, _⟩, ⟨_, _, ⟨A', c', e', _⟩, _⟩, ⟨A'', c'', e'', _⟩⟩ := h
  exact ⟨⟨A, _, c, e⟩, ⟨A', _, c', e'⟩, ⟨A'', _, c'', e''⟩⟩
theorem hdl_eql (a b : Int) (W : World) : (binOp .eql 50 (.agg #[.int .i64 a, .int .i64 b]) (.agg #[.int .i64 a, .int .i64 b])).run Try.prog W = .ok (.bool true) W := by
  simp [go_sem]
end Go.Proofs.Yteejianjjpdimaa
namespace Go.Proofs.Yteejianjjpdimaa.L20
open L02 L13 L18
/-- a field of the object of a right handle of a valid model -/
structure Ed (m : Mo) (k n i : Nat) (sg : Int) (o : Ob) (t : List UInt8) (kd : UInt8) (x0 : UInt64) : Prop where
  hc : chk m = 0
  hr : rightErr m.slots k sg = 0
  hs : m.slots[k]? = some ⟨sg, true, n⟩
  hn : n < m.objs.length
  ho : m.objs[n]? = some o
  hob : ob m n = o
  hi : i < o.fs.length
  hx : o.fs[i]? = some x0
  hown : own m k = n
  hty : 0 ≤ o.ty ∧ o.ty < m.types.length
  ht : m.types[o.ty.toNat]? = some t
  hk : t[i]? = some kd
  htl : t.length = o.fs.length
  htt : ty m.types o = t
  hE : kErrF m k sg i = 0
  hkd : kind m k sg i = kd
  hfd : FdOk m.objs.length kd x0
theorem Ed.of {m : Mo} {k n i : Nat} {sg : Int} {s : Sl} {o : Ob} {t : List UInt8} (hc : chk m = 0) (hr : rightErr m.slots k sg = 0) (hs : m.slots[k]? = some s) (hu : s.used = true) (hg : s.gen = sg) (hat : s.at_ = n) (ho : m.objs[n]? = some o) (hob : ob m n = o) (hoo : ObOk m.types m.objs.length o)
    (hown : own m k = n) (ht : m.types[o.ty.toNat]? = some t) (htt : ty m.types o = t) (hkinds : kinds m k = t) (hfl : o.fs.length = t.length) (hi : i < o.fs.length) : ∃ kd x0, Ed m k n i sg o t kd x0 := by
  obtain ⟨g, u, a⟩ := s
  dsimp only at hu hg hat
  subst hu; subst hg; subst hat
  have ha : asked m k g = 0 := by rw [asked, if_pos hc, hr]
  have hk : t[i]? = some t[i] := List.getElem?_eq_getElem (by omega)
  have hx : o.fs[i]? = some o.fs[i] := List.getElem?_eq_getElem hi
  have hE : kErrF m k g i = 0 := by rw [kErrF, if_pos ha, if_pos (by rw [hkinds]; omega)]
  have hf := hoo.2.2 i hi
  rw [htt, List.getD_eq_getElem?_getD, hk, List.getD_eq_getElem?_getD, hx] at hf
  exact ⟨t[i], o.fs[i], hc, hr, hs, (List.getElem?_eq_some_iff.1 ho).1, ho, hob, hi, hx, hown, hoo.1, ht, hk, hfl.symm, htt, hE, by rw [kind, if_pos hE, hkinds, Int.toNat_natCast, List.getD_eq_getElem?_getD, hk]; rfl, hf⟩
section
variable {m : Mo} {k n i : Nat} {sg : Int} {o : Ob} {t : List UInt8} {kd : UInt8} {x0 : UInt64} (h : Ed m k n i sg o t kd x0)
include h
theorem Ed.chk {v : UInt64} (hv : FdOk m.objs.length kd v) : L20.chk (putF m n i v) = 0 := by
  refine chk_putF h.hc h.hn fun _ => ?_
  rw [h.hob, h.htt, List.getD_eq_getElem?_getD, h.hk]; exact hv
/-- the field of an edited model -/
theorem Ed.put {v : UInt64} (hv : FdOk m.objs.length kd v) : Ed (putF m n i v) k n i sg ⟨o.ty, o.fs.set i v⟩ t kd v := by
  have hp := h.chk hv
  have hob : ob (putF m n i v) n = ⟨o.ty, o.fs.set i v⟩ := by rw [ob_putF h.hn, h.hob]
  have hki : kinds (putF m n i v) k = kinds m k := kinds_putF h.hn h.hown
  have hE : kErrF (putF m n i v) k sg i = kErrF m k sg i := by unfold kErrF; rw [asked_putF h.hc hp, hki]
  refine ⟨hp, h.hr, h.hs, by rw [len_putF]; exact h.hn, ?_, hob, by simpa using h.hi, List.getElem?_set_self h.hi, h.hown, h.hty, h.ht, h.hk, by simpa using h.htl, h.htt, hE.trans h.hE, ?_, by rw [len_putF]; exact hv⟩
  · show (m.objs.set n _)[n]? = _
    rw [List.getElem?_set_self h.hn, h.hob]
  · unfold kind; rw [hE, hki]; exact h.hkd
theorem Ed.fld : fld m k i = x0 := by rw [L20.fld, h.hown, h.hob, Int.toNat_natCast, List.getD_eq_getElem?_getD, h.hx]; rfl
theorem Ed.get (h3 : kd.toNat ≠ 3) : getE m k sg i = 0 ∧ getV m k sg i = x0 := by
  have e : getE m k sg i = 0 := by rw [getE, if_pos h.hE, h.hkd, if_neg h3]
  exact ⟨e, by rw [getV, if_pos e, h.fld]⟩
theorem Ed.get3 (h3 : kd.toNat = 3) : getE m k sg i = 42 ∧ getV m k sg i = 0 := by
  have e : getE m k sg i = 42 := by rw [getE, if_pos h.hE, h.hkd, if_pos h3]
  exact ⟨e, by rw [getV, e]; rfl⟩
theorem Ed.put_eq {v : UInt64} : L20.put m k i v = putF m n i v := by rw [L20.put, h.hown, Int.toNat_natCast]
theorem Ed.set {v : UInt64} (h3 : kd.toNat ≠ 3) : setM m k sg i v = putF m n i (setV kd v) := by rw [setM, if_pos (h.get h3).1, h.hkd, h.put_eq]
theorem Ed.set3 {v : UInt64} (h3 : kd.toNat = 3) : setM m k sg i v = .nil := by rw [setM, (h.get3 h3).1]; rfl
theorem Ed.ref (tq : Int × Int) (h3 : kd.toNat = 3) : refE m k sg i (some tq) = rightErr m.slots tq.1 tq.2 := by unfold refE; rw [if_pos h.hE, h.hkd, if_pos h3]
theorem Ed.refM (tq : Int × Int) (h3 : kd.toNat = 3) (hr : rightErr m.slots tq.1 tq.2 = 0) : refM m k sg i (some tq) = putF m n i (UInt64.ofNat (own m tq.1 + 1)) := by rw [L20.refM, if_pos (by rw [h.ref tq h3, hr]), h.put_eq]
end
end Go.Proofs.Yteejianjjpdimaa.L20
namespace Go.Proofs.Yteejianjjpdimaa
open Go.RowKit L02 L13 L18 L20
/-- where an own object with fields lies -/
theorem OwnF.at_ {w : World} {base n gf : Nat} {v : Value} {L : List Ob} {o : Ob} (h : OwnF w base v L n gf) (ho : L[n]? = some o) (hf : 0 < o.fs.length) :
    ∃ b q nf cf, (∀ W, (Instr.indexAt 23 v (.int .i64 (n : Int))).run Try.prog W = .ok (.pointer (some ⟨b, q, none⟩)) W) ∧ w.cell? ⟨b, q + 1, none⟩ = some (.slice (some ⟨gf, 0, none⟩) nf cf) ∧ nf = o.fs.length ∧
      (∀ i, i < o.fs.length → ∀ W, (Instr.indexAt 43 (.slice (some ⟨gf, 0, none⟩) nf cf) (.int .i64 (i : Int))).run Try.prog W = .ok (.pointer (some ⟨gf, i, none⟩)) W) ∧ v.ownBlock = some b ∧ ∃ xs, w.ownsRow base 45 2 v L.length xs := by
  obtain ⟨vs, nf, cf, h1, h2, h4, h5, hv⟩ := h
  have hk : n < L.length := (List.getElem?_eq_some_iff.1 ho).1
  have hr := h4 n _ _ hv ho
  obtain ⟨gf', cap, cur, hvv, _⟩ := own_form hr hf
  obtain rfl : nf = o.fs.length := by injection hvv
  have hix := fun W => Rd.ixN (P := Try.prog) (Rd.of_own h2) Try.underlying23 size_obj hk W
  obtain ⟨gb, capb, curb, e, _⟩ := own_form h2 (by omega)
  obtain ⟨b, q, c, rfl, hb, hc, hcell⟩ := Rd.form (Rd.of_own h2) (by omega)
  obtain ⟨c0, c1⟩ := obC_get ho hv
  injection e with e1 _ _
  injection e1 with e1
  injection e1 with e2 e3 _
  subst e2; subst e3
  refine ⟨b, 0 + n * 2, _, cf, fun W => hix W, hcell _ _ c1, rfl, fun i hi W => ?_, rfl, _, h2⟩
  have := Rd.ixN (P := Try.prog) (OwnW.rd hr) Try.underlying43 one_u64 hi W
  simpa [cellAt] using this
theorem OwnO.f {w : World} {base : Nat} {v : Value} {L : List Ob} (h : OwnO w base v L) {n : Nat} {o : Ob} (ho : L[n]? = some o) (hf : 0 < o.fs.length) : ∃ gf, OwnF w base v L n gf := by
  obtain ⟨b, q, gf, nf, cf, h1, h2, h3, h4, h5, _⟩ := h.at_ ho hf
  exact ⟨gf, h5⟩
theorem OwnM.apart {w : World} {B p i : Nat} {tv ov sv u : Value} {m : Mo} (h : OwnM w B 48 tv ov sv m) (hp : p < B) : OwnM (w.setCell ⟨p, i, none⟩ u) B 48 tv ov sv m := by
  obtain ⟨⟨vs, a1, a2, a4⟩, ⟨vs', b1, b2, b4, b5⟩, hs⟩ := h
  exact ⟨⟨vs, a1, own_apart a2 hp, fun i x l h5 h6 => own_apart (a4 i x l h5 h6) hp⟩, ⟨vs', b1, own_apart b2 hp, fun i x l h5 h6 => own_apart (b4 i x l h5 h6) hp, b5⟩, own_apart hs hp⟩
theorem OwnF.apart {w : World} {B p i n gf : Nat} {v u : Value} {L : List Ob} (h : OwnF w B v L n gf) (hp : p < B) : OwnF (w.setCell ⟨p, i, none⟩ u) B v L n gf := by
  obtain ⟨vs, nf, cf, b1, b2, b4, b5, b6⟩ := h
  exact ⟨vs, nf, cf, b1, own_apart b2 hp, fun i x l h5 h6 => own_apart (b4 i x l h5 h6) hp, b5, b6⟩
/-- a model of the call's own whose blocks lie below top, and where the fields of its object n lie -/
def OwnV (w : World) (base top : Nat) (tv ov sv : Value) (m : Mo) (n gf : Nat) : Prop :=
  (∃ vt : List Value, vt.length = m.types.length ∧ w.ownsRow base 41 1 tv m.types.length vt ∧ (∀ (i : Nat) x l, vt[i]? = some x → m.types[i]? = some l → OwnB w base 5 x l ∧ ∀ g, x.ownBlock = some g → g < top)) ∧
  (∃ (vs : List Value) (nf cf : Nat), vs.length = m.objs.length ∧ w.ownsRow base 45 2 ov m.objs.length (obC m.objs vs) ∧ (∀ (i : Nat) x o, vs[i]? = some x → m.objs[i]? = some o → OwnW w base 46 x o.fs ∧ ∀ g, x.ownBlock = some g → g < top) ∧
    (∀ (i j : Nat) x y, i ≠ j → vs[i]? = some x → vs[j]? = some y → x.ownBlock = none ∨ x.ownBlock ≠ y.ownBlock) ∧ vs[n]? = some (.slice (some ⟨gf, 0, none⟩) nf cf)) ∧
  OwnS w base 48 sv m.slots ∧ (∀ g, tv.ownBlock = some g → g < top) ∧ (∀ g, ov.ownBlock = some g → g < top) ∧ (∀ g, sv.ownBlock = some g → g < top)
theorem OwnV.of {w : World} {base n gf : Nat} {tv ov sv : Value} {m : Mo} (h : OwnM w base 48 tv ov sv m) (hf : OwnF w base ov m.objs n gf) : OwnV w base w.heap.size tv ov sv m n gf := by
  obtain ⟨⟨vt, a1, a2, a4⟩, _, hs⟩ := h
  obtain ⟨vs, nf, cf, b1, b2, b4, b5, b6⟩ := hf
  exact ⟨⟨vt, a1, a2, fun i x l h1 h2 => ⟨a4 i x l h1 h2, fun g hg => ((a4 i x l h1 h2).lt g hg).2⟩⟩, ⟨vs, nf, cf, b1, b2, fun i x o h1 h2 => ⟨b4 i x o h1 h2, fun g hg => (World.ownsRow.lt (b4 i x o h1 h2) g hg).2⟩, b5, b6⟩, hs,
    fun g hg => (a2.lt g hg).2, fun g hg => (b2.lt g hg).2, fun g hg => (World.ownsRow.lt hs g hg).2⟩
theorem OwnV.m {w : World} {base top n gf : Nat} {tv ov sv : Value} {m : Mo} (h : OwnV w base top tv ov sv m n gf) : OwnM w base 48 tv ov sv m := by
  obtain ⟨⟨vt, a1, a2, a4⟩, ⟨vs, nf, cf, b1, b2, b4, b5, b6⟩, hs, _⟩ := h
  exact ⟨⟨vt, a1, a2, fun i x l h1 h2 => (a4 i x l h1 h2).1⟩, ⟨vs, b1, b2, fun i x o h1 h2 => (b4 i x o h1 h2).1, b5⟩, hs⟩
theorem OwnV.f {w : World} {base top n gf : Nat} {tv ov sv : Value} {m : Mo} (h : OwnV w base top tv ov sv m n gf) : OwnF w base ov m.objs n gf := by
  obtain ⟨_, ⟨vs, nf, cf, b1, b2, b4, b5, b6⟩, _⟩ := h
  exact ⟨vs, nf, cf, b1, b2, fun i x o h1 h2 => (b4 i x o h1 h2).1, b5, b6⟩
theorem OwnV.lt {w : World} {base top n gf : Nat} {tv ov sv : Value} {m : Mo} (h : OwnV w base top tv ov sv m n gf) (hn : n < m.objs.length) : gf < top := by
  obtain ⟨_, ⟨vs, nf, cf, b1, b2, b4, b5, b6⟩, _⟩ := h
  exact (b4 n _ _ b6 (List.getElem?_eq_getElem hn)).2 gf rfl
/-- it stays in a world in which all rows stay -/
theorem OwnV.map {w w' : World} {base top n gf : Nat} {tv ov sv : Value} {m : Mo} (h : OwnV w base top tv ov sv m n gf)
    (hr : ∀ (e sz k : Nat) (v : Value) (xs : List Value), w.ownsRow base e sz v k xs → (e = 41 ∨ e = 5 ∨ e = 45 ∨ e = 46 ∨ e = 48) → (∀ g, v.ownBlock = some g → g < top) → w'.ownsRow base e sz v k xs) : OwnV w' base top tv ov sv m n gf := by
  obtain ⟨⟨vt, a1, a2, a4⟩, ⟨vs, nf, cf, b1, b2, b4, b5, b6⟩, hs, t1, t2, t3⟩ := h
  exact ⟨⟨vt, a1, hr _ _ _ _ _ a2 (.inl rfl) t1, fun i x l h1 h2 => ⟨hr _ _ _ _ _ (a4 i x l h1 h2).1 (.inr (.inl rfl)) (a4 i x l h1 h2).2, (a4 i x l h1 h2).2⟩⟩,
    ⟨vs, nf, cf, b1, hr _ _ _ _ _ b2 (.inr (.inr (.inl rfl))) t2, fun i x o h1 h2 => ⟨hr _ _ _ _ _ (b4 i x o h1 h2).1 (.inr (.inr (.inr (.inl rfl)))) (b4 i x o h1 h2).2, (b4 i x o h1 h2).2⟩, b5, b6⟩,
    hr _ _ _ _ _ hs (.inr (.inr (.inr (.inr rfl)))) t3, t1, t2, t3⟩
theorem OwnV.below {w w' : World} {base top n gf : Nat} {tv ov sv : Value} {m : Mo} (h : OwnV w base top tv ov sv m n gf) (hb : Below w.heap.size w w') : OwnV w' base top tv ov sv m n gf :=
  h.map fun _ _ _ _ _ h1 _ _ => own_below h1 hb
theorem OwnV.set {w : World} {base top n gf p i : Nat} {tv ov sv u : Value} {m : Mo} {cs : Array Value} (h : OwnV w base top tv ov sv m n gf) (hg : Bx w p 26 cs) : OwnV (w.setCell ⟨p, i, none⟩ u) base top tv ov sv m n gf :=
  h.map fun _ _ _ _ _ h1 h2 _ => own_set h1 hg (by rcases h2 with rfl | rfl | rfl | rfl | rfl <;> decide)
theorem OwnV.far {w : World} {base top n gf p i : Nat} {tv ov sv u : Value} {m : Mo} (h : OwnV w base top tv ov sv m n gf) (hp : top ≤ p) : OwnV (w.setCell ⟨p, i, none⟩ u) base top tv ov sv m n gf :=
  h.map fun _ _ _ v _ h1 _ h3 => World.ownsRow.kept h1 (grown_set w ⟨p, i, none⟩ u) (by
    cases hv : v.ownBlock with
    | none => exact .inl rfl
    | some g => exact .inr (fun e => by injection e with e; subst e; have := h3 g hv; omega))
theorem OwnV.mono {w : World} {base top top' n gf : Nat} {tv ov sv : Value} {m : Mo} (h : OwnV w base top tv ov sv m n gf) (hp : top ≤ top') : OwnV w base top' tv ov sv m n gf := by
  obtain ⟨⟨vt, a1, a2, a4⟩, ⟨vs, nf, cf, b1, b2, b4, b5, b6⟩, hs, t1, t2, t3⟩ := h
  exact ⟨⟨vt, a1, a2, fun i x l h1 h2 => ⟨(a4 i x l h1 h2).1, fun g hg => Nat.lt_of_lt_of_le ((a4 i x l h1 h2).2 g hg) hp⟩⟩, ⟨vs, nf, cf, b1, b2, fun i x o h1 h2 => ⟨(b4 i x o h1 h2).1, fun g hg => Nat.lt_of_lt_of_le ((b4 i x o h1 h2).2 g hg) hp⟩, b5, b6⟩, hs,
    fun g hg => Nat.lt_of_lt_of_le (t1 g hg) hp, fun g hg => Nat.lt_of_lt_of_le (t2 g hg) hp, fun g hg => Nat.lt_of_lt_of_le (t3 g hg) hp⟩
theorem OwnV.base {w : World} {base base' top n gf : Nat} {tv ov sv : Value} {m : Mo} (h : OwnV w base top tv ov sv m n gf) (hp : base' ≤ base) : OwnV w base' top tv ov sv m n gf := by
  obtain ⟨⟨vt, a1, a2, a4⟩, ⟨vs, nf, cf, b1, b2, b4, b5, b6⟩, hs, t1, t2, t3⟩ := h
  exact ⟨⟨vt, a1, own_mono a2 hp, fun i x l h1 h2 => ⟨own_mono (a4 i x l h1 h2).1 hp, (a4 i x l h1 h2).2⟩⟩, ⟨vs, nf, cf, b1, own_mono b2 hp, fun i x o h1 h2 => ⟨own_mono (b4 i x o h1 h2).1 hp, (b4 i x o h1 h2).2⟩, b5, b6⟩, own_mono hs hp, t1, t2, t3⟩
end Go.Proofs.Yteejianjjpdimaa
