/- Contracts of the reference of models: a field, getting one. -/
import Derived.Test.YtgjpohhafmkhcaaC20t
set_option linter.unusedVariables false
set_option linter.unusedSimpArgs false
namespace Go.Proofs.Ytgjpohhafmkhcaa
open Go.RowKit L02 L13 L18 L20

set_option maxRecDepth 100000 in
set_option maxHeartbeats 4000000 in
theorem Kind_any (tv ov sv : Value) (m : Mo) (sl g n : Int) (kd : UInt8) (nm r : Int) (hkd : kd = kind m sl g n) (hr : r = kErrF m sl g n) (hnm : nm = if kErrF m sl g n = 0 then (own m sl : Int) else 0) (w : World) (h : Mod w tv ov sv m) :
    Calls Try.prog 40 #[.agg #[tv, ov, sv], .agg #[.int .i64 sl, .int .i64 g], .int .i64 n] w fun e w' => e = .returned (.tuple #[.int .u8 kd.toNat, .int .i64 nm, .int .i64 r]) ∧ Below w.heap.size w w' := by
  have B : Below w.heap.size w w := Below.refl _ _
  have H := Lib.hid h
  obtain ⟨z, hz⟩ : ∃ z, z = asked m sl g := ⟨_, rfl⟩
  have AT := Lib.hid (fun w h => Asked_any tv ov sv m sl g z hz w h)
  by_cases ha : asked m sl g = 0
  · obtain ⟨c0, hr0, k, s, n', o, t, hk, hk16, hs, hu, hg, hso, hat, hown, ho, hob, hoo, ht, htt, hkinds, hfl⟩ := asked_ok ha
    subst hk
    obtain ⟨sb, sq, s3, is_, k0, k1, m0, hs3⟩ := h.s.at_ (P := Try.prog) Try.underlying24 size_slot (k := k) (List.getElem?_eq_some_iff.1 hs).1
    obtain rfl : s3 = s := by have := hs3.out; rw [hs] at this; injection this with e; exact e.symm
    rw [hat] at m0
    obtain ⟨ob_, oq, x, o2, io, m1, m2, ho2, hx, hob2⟩ := h.o.at_ (List.getElem?_eq_some_iff.1 ho).1
    obtain rfl : o2 = o := by have := ho2.out; rw [ho] at this; injection this with e; exact e.symm
    obtain ⟨q, hq⟩ := Int.eq_ofNat_of_zero_le hoo.1.1
    rw [hq] at m1
    rw [hq, Int.toNat_natCast] at ht
    obtain ⟨ad, y, t2, it, m3, ht2, hby⟩ := h.t.at_ (List.getElem?_eq_some_iff.1 ht).1
    obtain rfl : t2 = t := by have := ht2.out; rw [ht] at this; injection this with e; exact e.symm
    have ly := Rd.len hby.out Try.underlying74
    obtain ⟨nt, hnt⟩ : ∃ N, N = t2.length := ⟨_, rfl⟩
    rw [← hnt] at ly
    rw [ha] at hz
    subst hz
    by_cases hn : 0 ≤ n ∧ n < nt
    · obtain ⟨i, rfl⟩ := Int.eq_ofNat_of_zero_le hn.1
      have h0 : kErrF m k g i = 0 := kErrF_ok ha (by rw [hkinds]; omega)
      have hr1 : r = 0 := by rw [hr, h0]
      have hnm1 : nm = (n' : Int) := by rw [hnm, if_pos h0, hown]
      have hkk : kd = t2.getD i 0 := by rw [hkd, kind, if_pos h0, hkinds]; rfl
      have hki : t2[i]? = some kd := by rw [hkk, List.getD_eq_getElem?_getD, List.getElem?_eq_getElem (by omega)]; rfl
      obtain ⟨bd, kb, ib, m4, hkb⟩ := hby.out.at_ (P := Try.prog) Try.underlying74 one_u8 (k := i) (by omega)
      obtain rfl : kb = kd := by have := hkb.out; rw [hki] at this; injection this with e; exact e.symm
      have c1 : ¬ (i : Int) < 0 := by omega
      have c2 : ¬ nt ≤ i := by omega
      subst hr1; subst hnm1
      clear hr hnm hkd h0 hkk hki hkb hn hs3 ho2 ht2 hx hs ho ht hso hoo hat hown hob htt hkinds hfl hr0 c0 ha k0 k1 hby hnt hu hg h
      go_enter Try.func40, Try.ntmps40
      go_upto_region 1 with (fail)
      refine wp_gen (fun Wv => Bx Wv (w.heap.size) (26) (#[tv, ov, sv]) ∧ Bx Wv (w.heap.size + 1) (28) (#[.int .i64 k, .int .i64 g]) ∧ Below w.heap.size w Wv) ⟨(((Bx.at_ (by simp)).alloc _)), ((Bx.at_ (by simp))), (((Below.refl _ w).alloc (by simp <;> omega) _).alloc (by simp <;> omega) _)⟩ ?_
      rintro wa1 ⟨g1, g2, b⟩
      replace m0 := cell_later b m0; replace m1 := cell_later b m1; replace m2 := cell_later b m2; replace m3 := cell_later b m3; replace m4 := cell_later b m4; replace B := B.trans (b.mono B.size); clear b
      have c_g1 := g1.cell; have f_g1 := g1.free; have a_g1 := fun o => (g1.alloc o).cell; have d_g1 := fun o o2 => ((g1.alloc o).alloc o2).cell; have e_g1 := fun o => (g1.alloc o).free
      have c_g2 := g2.cell; have f_g2 := g2.free; have a_g2 := fun o => (g2.alloc o).cell; have d_g2 := fun o o2 => ((g2.alloc o).alloc o2).cell; have e_g2 := fun o => (g2.alloc o).free
      go_wp2_with fail
      refine (AT.out _ (H.out.below B)).mono ?_
      rintro e wa2 ⟨rfl, b⟩
      replace m0 := cell_later b m0; replace m1 := cell_later b m1; replace m2 := cell_later b m2; replace m3 := cell_later b m3; replace m4 := cell_later b m4; try clear c_g1 f_g1 a_g1 d_g1 e_g1
      replace g1 := g1.below b; have c_g1 := g1.cell; have f_g1 := g1.free; have a_g1 := fun o => (g1.alloc o).cell; have d_g1 := fun o o2 => ((g1.alloc o).alloc o2).cell; have e_g1 := fun o => (g1.alloc o).free; try clear c_g2 f_g2 a_g2 d_g2 e_g2
      replace g2 := g2.below b; have c_g2 := g2.cell; have f_g2 := g2.free; have a_g2 := fun o => (g2.alloc o).cell; have d_g2 := fun o o2 => ((g2.alloc o).alloc o2).cell; have e_g2 := fun o => (g2.alloc o).free; replace B := B.trans (b.mono B.size); clear b
      go_upto_region 5 with (fail)
      refine wp_region_calm (by kernel_rfl) (by kernel_rfl) ?_
      try clear c_g1 f_g1 a_g1 d_g1 e_g1
      have c_g1 := fun x : Fut _ => (g1.below x.h).cell
      try clear c_g2 f_g2 a_g2 d_g2 e_g2
      have c_g2 := fun x : Fut _ => (g2.below x.h).cell
      have c_m0 := fun x : Fut _ => cell_later x.h m0
      have c_m1 := fun x : Fut _ => cell_later x.h m1
      have c_m2 := fun x : Fut _ => cell_later x.h m2
      have c_m3 := fun x : Fut _ => cell_later x.h m3
      have c_m4 := fun x : Fut _ => cell_later x.h m4
      repeat (go_big_quiet_step (fail))
      refine wpQuiet_nil ?_
      intro _ hw'
      obtain ⟨xq, hw''⟩ := hw'
      subst hw''
      clear c_m0; replace m0 := cell_later xq.h m0
      clear c_m1; replace m1 := cell_later xq.h m1
      clear c_m2; replace m2 := cell_later xq.h m2
      clear c_m3; replace m3 := cell_later xq.h m3
      clear c_m4; replace m4 := cell_later xq.h m4
      clear c_g1; replace g1 := g1.below xq.h; have c_g1 := g1.cell; have f_g1 := g1.free; have a_g1 := fun o => (g1.alloc o).cell; have d_g1 := fun o o2 => ((g1.alloc o).alloc o2).cell; have e_g1 := fun o => (g1.alloc o).free
      clear c_g2; replace g2 := g2.below xq.h; have c_g2 := g2.cell; have f_g2 := g2.free; have a_g2 := fun o => (g2.alloc o).cell; have d_g2 := fun o o2 => ((g2.alloc o).alloc o2).cell; have e_g2 := fun o => (g2.alloc o).free
      replace B := B.trans (xq.h.mono B.size)
      go_wp2
      refine bodyPost_ret (v := .tuple #[.int .u8 kb.toNat, .int .i64 n', .int .i64 0]) (by simp [results, Try.results40, go_sem]) rfl ?_
      exact ⟨rfl, B⟩
    · have h0 : kErrF m k g n = 2 := kErrF_arg ha (by rw [hkinds]; omega)
      have hr1 : r = 2 := by rw [hr, h0]
      have hnm1 : nm = 0 := by rw [hnm, h0]; rfl
      have hkk : kd = 0 := by rw [hkd, kind, h0]; rfl
      have hcase : n < 0 ∨ ¬ n < 0 ∧ (nt : Int) ≤ n := by omega
      subst hr1; subst hnm1; subst hkk
      clear hr hnm hkd h0 hn hs3 ho2 ht2 hx hs ho ht hso hoo hat hown hob htt hkinds hfl hr0 c0 ha k0 k1 hby hnt hu hg h
      rcases hcase with c1 | ⟨c1, c2⟩
      all_goals
        go_enter Try.func40, Try.ntmps40
        go_upto_region 1 with (fail)
        refine wp_gen (fun Wv => Bx Wv (w.heap.size) (26) (#[tv, ov, sv]) ∧ Bx Wv (w.heap.size + 1) (28) (#[.int .i64 k, .int .i64 g]) ∧ Below w.heap.size w Wv) ⟨(((Bx.at_ (by simp)).alloc _)), ((Bx.at_ (by simp))), (((Below.refl _ w).alloc (by simp <;> omega) _).alloc (by simp <;> omega) _)⟩ ?_
        rintro wa1 ⟨g1, g2, b⟩
        replace m0 := cell_later b m0; replace m1 := cell_later b m1; replace m2 := cell_later b m2; replace m3 := cell_later b m3; replace B := B.trans (b.mono B.size); clear b
        have c_g1 := g1.cell; have f_g1 := g1.free; have a_g1 := fun o => (g1.alloc o).cell; have d_g1 := fun o o2 => ((g1.alloc o).alloc o2).cell; have e_g1 := fun o => (g1.alloc o).free
        have c_g2 := g2.cell; have f_g2 := g2.free; have a_g2 := fun o => (g2.alloc o).cell; have d_g2 := fun o o2 => ((g2.alloc o).alloc o2).cell; have e_g2 := fun o => (g2.alloc o).free
        go_wp2_with fail
        refine (AT.out _ (H.out.below B)).mono ?_
        rintro e wa2 ⟨rfl, b⟩
        replace m0 := cell_later b m0; replace m1 := cell_later b m1; replace m2 := cell_later b m2; replace m3 := cell_later b m3; try clear c_g1 f_g1 a_g1 d_g1 e_g1
        replace g1 := g1.below b; have c_g1 := g1.cell; have f_g1 := g1.free; have a_g1 := fun o => (g1.alloc o).cell; have d_g1 := fun o o2 => ((g1.alloc o).alloc o2).cell; have e_g1 := fun o => (g1.alloc o).free; try clear c_g2 f_g2 a_g2 d_g2 e_g2
        replace g2 := g2.below b; have c_g2 := g2.cell; have f_g2 := g2.free; have a_g2 := fun o => (g2.alloc o).cell; have d_g2 := fun o o2 => ((g2.alloc o).alloc o2).cell; have e_g2 := fun o => (g2.alloc o).free; replace B := B.trans (b.mono B.size); clear b
        go_upto_region 5 with (fail)
        refine wp_region_calm (by kernel_rfl) (by kernel_rfl) ?_
        try clear c_g1 f_g1 a_g1 d_g1 e_g1
        have c_g1 := fun x : Fut _ => (g1.below x.h).cell
        try clear c_g2 f_g2 a_g2 d_g2 e_g2
        have c_g2 := fun x : Fut _ => (g2.below x.h).cell
        have c_m0 := fun x : Fut _ => cell_later x.h m0
        have c_m1 := fun x : Fut _ => cell_later x.h m1
        have c_m2 := fun x : Fut _ => cell_later x.h m2
        have c_m3 := fun x : Fut _ => cell_later x.h m3
        repeat (go_big_quiet_step (fail))
        refine wpQuiet_nil ?_
        intro _ hw'
        obtain ⟨xq, hw''⟩ := hw'
        subst hw''
        clear c_m0; replace m0 := cell_later xq.h m0
        clear c_m1; replace m1 := cell_later xq.h m1
        clear c_m2; replace m2 := cell_later xq.h m2
        clear c_m3; replace m3 := cell_later xq.h m3
        clear c_g1; replace g1 := g1.below xq.h; have c_g1 := g1.cell; have f_g1 := g1.free; have a_g1 := fun o => (g1.alloc o).cell; have d_g1 := fun o o2 => ((g1.alloc o).alloc o2).cell; have e_g1 := fun o => (g1.alloc o).free
        clear c_g2; replace g2 := g2.below xq.h; have c_g2 := g2.cell; have f_g2 := g2.free; have a_g2 := fun o => (g2.alloc o).cell; have d_g2 := fun o o2 => ((g2.alloc o).alloc o2).cell; have e_g2 := fun o => (g2.alloc o).free
        replace B := B.trans (xq.h.mono B.size)
        go_wp2
        refine bodyPost_ret (v := .tuple #[.int .u8 0, .int .i64 0, .int .i64 2]) (by simp [results, Try.results40, go_sem]) rfl ?_
        exact ⟨rfl, B⟩
  · have h0 : kErrF m sl g n = z := by rw [kErrF_no ha, hz]
    have hz0 : z ≠ 0 := by rw [hz]; exact ha
    have hr1 : r = z := by rw [hr, h0]
    have hnm1 : nm = 0 := by rw [hnm, h0, if_neg hz0]
    have hkk : kd = 0 := by rw [hkd, kind, h0, if_neg hz0]
    have hne : (z != 0) = true := by rw [bne_iff_ne]; exact hz0
    subst hr1; subst hnm1; subst hkk
    clear hr hnm hkd h0 hz ha h hz0
    go_enter Try.func40, Try.ntmps40
    go_upto_region 1 with (fail)
    refine wp_gen (fun Wv => Bx Wv (w.heap.size) (26) (#[tv, ov, sv]) ∧ Bx Wv (w.heap.size + 1) (28) (#[.int .i64 sl, .int .i64 g]) ∧ Below w.heap.size w Wv) ⟨(((Bx.at_ (by simp)).alloc _)), ((Bx.at_ (by simp))), (((Below.refl _ w).alloc (by simp <;> omega) _).alloc (by simp <;> omega) _)⟩ ?_
    rintro wa1 ⟨g1, g2, b⟩
    replace B := B.trans (b.mono B.size); clear b
    have c_g1 := g1.cell; have f_g1 := g1.free; have a_g1 := fun o => (g1.alloc o).cell; have d_g1 := fun o o2 => ((g1.alloc o).alloc o2).cell; have e_g1 := fun o => (g1.alloc o).free
    have c_g2 := g2.cell; have f_g2 := g2.free; have a_g2 := fun o => (g2.alloc o).cell; have d_g2 := fun o o2 => ((g2.alloc o).alloc o2).cell; have e_g2 := fun o => (g2.alloc o).free
    go_wp2_with fail
    refine (AT.out _ (H.out.below B)).mono ?_
    rintro e wa2 ⟨rfl, b⟩
    try clear c_g1 f_g1 a_g1 d_g1 e_g1
    replace g1 := g1.below b; have c_g1 := g1.cell; have f_g1 := g1.free; have a_g1 := fun o => (g1.alloc o).cell; have d_g1 := fun o o2 => ((g1.alloc o).alloc o2).cell; have e_g1 := fun o => (g1.alloc o).free; try clear c_g2 f_g2 a_g2 d_g2 e_g2
    replace g2 := g2.below b; have c_g2 := g2.cell; have f_g2 := g2.free; have a_g2 := fun o => (g2.alloc o).cell; have d_g2 := fun o o2 => ((g2.alloc o).alloc o2).cell; have e_g2 := fun o => (g2.alloc o).free; replace B := B.trans (b.mono B.size); clear b
    go_wp2
    refine bodyPost_ret (v := .tuple #[.int .u8 0, .int .i64 0, .int .i64 r]) (by simp [results, Try.results40, go_sem]) rfl ?_
    exact ⟨rfl, B⟩

/-- where a field lies -/
theorem Mod.fld_at {w : World} {tv ov sv : Value} {m : Mo} {n' i : Nat} {o : Ob} {x : UInt64} (h : Mod w tv ov sv m) (ho : m.objs[n']? = some o) (hx : o.fs[i]? = some x) :
    ∃ b q y cd, (∀ W, (Instr.indexAt 23 ov (.int .i64 (n' : Int))).run Try.prog W = .ok (.pointer (some ⟨b, q, none⟩)) W) ∧ w.cell? ⟨b, q + 1, none⟩ = some y ∧ (∀ W, (Instr.indexAt 70 y (.int .i64 (i : Int))).run Try.prog W = .ok (.pointer (some cd)) W) ∧ w.cell? cd = some (.int .u64 x.toNat) := by
  obtain ⟨b, q, y, o2, io, m1, m2, ho2, hy, _⟩ := h.o.at_ (List.getElem?_eq_some_iff.1 ho).1
  obtain rfl : o2 = o := by have := ho2.out; rw [ho] at this; injection this with e; exact e.symm
  obtain ⟨cd, x2, ic, m3, hx2⟩ := hy.out.at_ (P := Try.prog) Try.underlying70 one_u64 (List.getElem?_eq_some_iff.1 hx).1
  obtain rfl : x2 = x := by have := hx2.out; rw [hx] at this; injection this with e; exact e.symm
  exact ⟨b, q, y, cd, io, m2, ic, m3⟩

set_option maxRecDepth 100000 in
set_option maxHeartbeats 4000000 in
theorem GetR20_any (tv ov sv : Value) (m : Mo) (sl g n : Int) (v : UInt64) (r : Int) (hv : v = getV m sl g n) (hr : r = getE m sl g n) (w : World) (h : Mod w tv ov sv m) :
    Calls Try.prog 12 #[.agg #[tv, ov, sv], .agg #[.int .i64 sl, .int .i64 g], .int .i64 n] w fun e w' => e = .returned (.tuple #[.int .u64 v.toNat, .int .i64 r]) ∧ Below w.heap.size w w' := by
  have B : Below w.heap.size w w := Below.refl _ _
  have H := Lib.hid h
  obtain ⟨kd, hkd⟩ : ∃ kd, kd = kind m sl g n := ⟨_, rfl⟩
  obtain ⟨z, hz⟩ : ∃ z, z = kErrF m sl g n := ⟨_, rfl⟩
  obtain ⟨nm, hnm⟩ : ∃ nm, nm = if kErrF m sl g n = 0 then (own m sl : Int) else 0 := ⟨_, rfl⟩
  have KT := Lib.hid (fun w h => Kind_any tv ov sv m sl g n kd nm z hkd hz hnm w h)
  by_cases h0 : kErrF m sl g n = 0
  · obtain ⟨i, n', o, x, rfl, hown, ho, hx, hfx, _⟩ := fld_ok h0
    have hnm1 : nm = (n' : Int) := by rw [hnm, if_pos h0, hown]
    rw [h0] at hz
    subst hz; subst hnm1
    by_cases hk : kd.toNat = 3
    · have hr1 : r = 42 := by rw [hr, getE, if_pos h0, ← hkd, if_pos hk]
      have hv1 : v = 0 := by rw [hv, getV, ← hr, hr1]; rfl
      have k3 : ((kd.toNat : Int) == 3) = true := by rw [beq_iff_eq]; omega
      subst hr1; subst hv1
      clear hr hv h0 hown ho hx hfx hkd hk h hnm
      go_enter Try.func12, Try.ntmps12
      go_upto_region 1 with (fail)
      refine wp_gen (fun Wv => Bx Wv (w.heap.size) (26) (#[tv, ov, sv]) ∧ Bx Wv (w.heap.size + 1) (28) (#[.int .i64 sl, .int .i64 g]) ∧ Below w.heap.size w Wv) ⟨(((Bx.at_ (by simp)).alloc _)), ((Bx.at_ (by simp))), (((Below.refl _ w).alloc (by simp <;> omega) _).alloc (by simp <;> omega) _)⟩ ?_
      rintro wa1 ⟨g1, g2, b⟩
      replace B := B.trans (b.mono B.size); clear b
      have c_g1 := g1.cell; have f_g1 := g1.free; have a_g1 := fun o => (g1.alloc o).cell; have d_g1 := fun o o2 => ((g1.alloc o).alloc o2).cell; have e_g1 := fun o => (g1.alloc o).free
      have c_g2 := g2.cell; have f_g2 := g2.free; have a_g2 := fun o => (g2.alloc o).cell; have d_g2 := fun o o2 => ((g2.alloc o).alloc o2).cell; have e_g2 := fun o => (g2.alloc o).free
      go_wp2_with fail
      refine (KT.out _ (H.out.below B)).mono ?_
      rintro e wa2 ⟨rfl, b⟩
      try clear c_g1 f_g1 a_g1 d_g1 e_g1
      replace g1 := g1.below b; have c_g1 := g1.cell; have f_g1 := g1.free; have a_g1 := fun o => (g1.alloc o).cell; have d_g1 := fun o o2 => ((g1.alloc o).alloc o2).cell; have e_g1 := fun o => (g1.alloc o).free; try clear c_g2 f_g2 a_g2 d_g2 e_g2
      replace g2 := g2.below b; have c_g2 := g2.cell; have f_g2 := g2.free; have a_g2 := fun o => (g2.alloc o).cell; have d_g2 := fun o o2 => ((g2.alloc o).alloc o2).cell; have e_g2 := fun o => (g2.alloc o).free; replace B := B.trans (b.mono B.size); clear b
      go_wp2
      go_ret2
      exact ⟨rfl, B⟩
    · have hr1 : r = 0 := by rw [hr, getE, if_pos h0, ← hkd, if_neg hk]
      have hv1 : v = x := by rw [hv, getV, ← hr, hr1, if_pos rfl, hfx]
      have k3 : ((kd.toNat : Int) == 3) = false := by rw [beq_eq_false_iff_ne]; omega
      obtain ⟨b, q, y, cd, io, m0, ic, m1⟩ := h.fld_at ho hx
      subst hr1; subst hv1
      clear hr hv h0 hown ho hx hfx hkd hk h hnm
      go_enter Try.func12, Try.ntmps12
      go_upto_region 1 with (fail)
      refine wp_gen (fun Wv => Bx Wv (w.heap.size) (26) (#[tv, ov, sv]) ∧ Bx Wv (w.heap.size + 1) (28) (#[.int .i64 sl, .int .i64 g]) ∧ Below w.heap.size w Wv) ⟨(((Bx.at_ (by simp)).alloc _)), ((Bx.at_ (by simp))), (((Below.refl _ w).alloc (by simp <;> omega) _).alloc (by simp <;> omega) _)⟩ ?_
      rintro wa1 ⟨g1, g2, b⟩
      replace m0 := cell_later b m0; replace m1 := cell_later b m1; replace B := B.trans (b.mono B.size); clear b
      have c_g1 := g1.cell; have f_g1 := g1.free; have a_g1 := fun o => (g1.alloc o).cell; have d_g1 := fun o o2 => ((g1.alloc o).alloc o2).cell; have e_g1 := fun o => (g1.alloc o).free
      have c_g2 := g2.cell; have f_g2 := g2.free; have a_g2 := fun o => (g2.alloc o).cell; have d_g2 := fun o o2 => ((g2.alloc o).alloc o2).cell; have e_g2 := fun o => (g2.alloc o).free
      go_wp2_with fail
      refine (KT.out _ (H.out.below B)).mono ?_
      rintro e wa2 ⟨rfl, b⟩
      replace m0 := cell_later b m0; replace m1 := cell_later b m1; try clear c_g1 f_g1 a_g1 d_g1 e_g1
      replace g1 := g1.below b; have c_g1 := g1.cell; have f_g1 := g1.free; have a_g1 := fun o => (g1.alloc o).cell; have d_g1 := fun o o2 => ((g1.alloc o).alloc o2).cell; have e_g1 := fun o => (g1.alloc o).free; try clear c_g2 f_g2 a_g2 d_g2 e_g2
      replace g2 := g2.below b; have c_g2 := g2.cell; have f_g2 := g2.free; have a_g2 := fun o => (g2.alloc o).cell; have d_g2 := fun o o2 => ((g2.alloc o).alloc o2).cell; have e_g2 := fun o => (g2.alloc o).free; replace B := B.trans (b.mono B.size); clear b
      go_wp2
      go_ret2
      exact ⟨rfl, B⟩
  · have hr1 : r = z := by rw [hr, getE, if_neg h0, hz]
    have hv1 : v = 0 := by rw [hv, getV, ← hr, hr1, hz, if_neg h0]
    have hne : (z != 0) = true := by rw [bne_iff_ne, hz]; exact h0
    subst hv1; subst hr1
    clear hr hv h0 h hkd hz hnm
    go_enter Try.func12, Try.ntmps12
    go_upto_region 1 with (fail)
    refine wp_gen (fun Wv => Bx Wv (w.heap.size) (26) (#[tv, ov, sv]) ∧ Bx Wv (w.heap.size + 1) (28) (#[.int .i64 sl, .int .i64 g]) ∧ Below w.heap.size w Wv) ⟨(((Bx.at_ (by simp)).alloc _)), ((Bx.at_ (by simp))), (((Below.refl _ w).alloc (by simp <;> omega) _).alloc (by simp <;> omega) _)⟩ ?_
    rintro wa1 ⟨g1, g2, b⟩
    replace B := B.trans (b.mono B.size); clear b
    have c_g1 := g1.cell; have f_g1 := g1.free; have a_g1 := fun o => (g1.alloc o).cell; have d_g1 := fun o o2 => ((g1.alloc o).alloc o2).cell; have e_g1 := fun o => (g1.alloc o).free
    have c_g2 := g2.cell; have f_g2 := g2.free; have a_g2 := fun o => (g2.alloc o).cell; have d_g2 := fun o o2 => ((g2.alloc o).alloc o2).cell; have e_g2 := fun o => (g2.alloc o).free
    go_wp2_with fail
    refine (KT.out _ (H.out.below B)).mono ?_
    rintro e wa2 ⟨rfl, b⟩
    try clear c_g1 f_g1 a_g1 d_g1 e_g1
    replace g1 := g1.below b; have c_g1 := g1.cell; have f_g1 := g1.free; have a_g1 := fun o => (g1.alloc o).cell; have d_g1 := fun o o2 => ((g1.alloc o).alloc o2).cell; have e_g1 := fun o => (g1.alloc o).free; try clear c_g2 f_g2 a_g2 d_g2 e_g2
    replace g2 := g2.below b; have c_g2 := g2.cell; have f_g2 := g2.free; have a_g2 := fun o => (g2.alloc o).cell; have d_g2 := fun o o2 => ((g2.alloc o).alloc o2).cell; have e_g2 := fun o => (g2.alloc o).free; replace B := B.trans (b.mono B.size); clear b
    go_wp2
    go_ret2
    exact ⟨rfl, B⟩
end Go.Proofs.Ytgjpohhafmkhcaa
