/- Contracts of the functions that the law 'ModelFrees' reaches, part 6. No condition. -/
import Derived.Test.YtgjpohhafmkhcaaMMFse
set_option linter.unusedVariables false
set_option linter.unusedSimpArgs false
namespace Go.Proofs.Ytgjpohhafmkhcaa.L20
open L02 L13 L18
theorem allE_no {m : Mo} {t : Int} (hc : chk m = 0) (h : allE m t ≠ 0) : t < 0 ∨ (m.types.length : Int) ≤ t ∨ allE m t = 23 ∨ (allE m t = 4 ∧ m.objs.length = 960) := by
  unfold allE at *
  rw [if_pos hc] at *
  split
  · rename_i h1
    rw [if_pos h1] at h
    split
    · exact .inr (.inr (.inl rfl))
    · rename_i h2
      rw [if_neg h2] at h
      split
      · rename_i h3; exact .inr (.inr (.inr ⟨rfl, h3⟩))
      · rename_i h3; rw [if_neg h3] at h; exact absurd rfl h
  · omega
theorem zeros_get (n i : Nat) : (List.replicate n (0 : UInt64)).getD i 0 = 0 := by
  rw [List.getD_eq_getElem?_getD, List.getElem?_replicate]; split <;> rfl
/-- what is known of an object that was allocated -/
structure Alld (m : Mo) (t : Int) (k : Nat) (g0 : Int) : Prop where
  hc : chk m = 0
  ht : 0 ≤ t ∧ t < m.types.length
  hn : m.objs.length < 960
  hk : k < 16
  hs : m.slots[k]? = some ⟨g0, false, 0⟩
  hg : 0 ≤ g0 ∧ g0 < 2147483647
  hM : allM m t = ⟨m.types, m.objs ++ [newO m t], m.slots.set k ⟨g0 + 1, true, m.objs.length⟩⟩
  hS : allS m t = k
  hG : allG m t = g0 + 1
theorem Alld.of {m : Mo} {t : Int} (h : allE m t = 0) : ∃ k g0, Alld m t k g0 := by
  have h' := h
  unfold allE at h
  split at h
  · rename_i hc
    obtain ⟨h8, h960, h16, hty, hobs, hsl⟩ := chk_ok hc
    split at h
    · rename_i ht
      split at h
      · omega
      · rename_i hnx
        split at h
        · omega
        · rename_i hl
          obtain ⟨k, hk⟩ := Option.ne_none_iff_exists'.1 hnx
          obtain ⟨_, ⟨s, hs, hu, hg1⟩, _⟩ := nextFrom_some hk
          rw [Nat.sub_zero] at hs
          have hkl : k < 16 := by have := (List.getElem?_eq_some_iff.1 hs).1; omega
          have hsk := hsl s (List.mem_of_getElem? hs)
          obtain ⟨g0, u, a⟩ := s
          dsimp only at hu hg1
          subst hu
          obtain rfl : a = 0 := hsk.2.1 rfl
          have hgd : m.slots.getD k .none = ⟨g0, false, 0⟩ := by rw [List.getD_eq_getElem?_getD, hs]; rfl
          have hg2 := hsk.1
          dsimp only at hg2
          refine ⟨k, g0, hc, ht, by omega, hkl, hs, by omega, ?_, ?_, ?_⟩
          · rw [allM, if_pos h', hk, Option.getD_some, givS, hgd]
          · rw [allS, if_pos h', hk, Option.getD_some]
          · rw [allG, if_pos h', hk, Option.getD_some, hgd]
    · omega
  · omega
section
variable {m : Mo} {t : Int} {k : Nat} {g0 : Int} (h : Alld m t k g0)
include h
/-- the new model -/
theorem Alld.slot : (m.slots.set k ⟨g0 + 1, true, m.objs.length⟩)[k]? = some ⟨g0 + 1, true, m.objs.length⟩ := by
  have h1 := (List.getElem?_eq_some_iff.1 h.hs).1
  rw [List.getElem?_set_self h1]
theorem Alld.ok : chk (allM m t) = 0 := by
  obtain ⟨h8, h960, h16, hty, hobs, hsl⟩ := chk_ok h.hc
  have hn := h.hn
  rw [h.hM]
  refine chk_zero (by simp; omega) ⟨by simpa using h16, hty, fun o ho => ?_, fun s hs => ?_⟩
  · rcases List.mem_append.1 ho with ho | ho
    · obtain ⟨a1, a2, a3⟩ := hobs o ho
      refine ⟨a1, a2, fun i hi => ?_⟩
      obtain ⟨b1, b2⟩ := a3 i hi
      exact ⟨b1, fun e => Nat.le_trans (b2 e) (by simp)⟩
    · rw [List.mem_singleton] at ho
      subst ho
      have ht := h.ht
      refine ⟨ht, by simp [newO, ty], fun i hi => ?_⟩
      simp only [newO, zeros_get]
      exact ⟨fun _ => by decide, fun _ => by simp⟩
  · rcases List.mem_or_eq_of_mem_set hs with hs | hs
    · obtain ⟨a1, a2, a3⟩ := hsl s hs
      exact ⟨a1, a2, fun e => by have := a3 e; simp; omega⟩
    · subst hs
      have := h.hg
      refine ⟨?_, ?_, ?_⟩
      · dsimp only; omega
      · intro e; cases e
      · intro _; simp; omega
theorem Alld.len : (allM m t).objs.length = m.objs.length + 1 := by rw [h.hM]; simp
theorem Alld.obj : (allM m t).objs[m.objs.length]? = some (newO m t) := by rw [h.hM]; simp
theorem Alld.right : rightErr (allM m t).slots k (g0 + 1) = 0 := by
  have hk := h.hk
  have hs := h.slot
  have h16 := (chk_ok h.hc).2.2.1
  have hgd : (m.slots.set k ⟨g0 + 1, true, m.objs.length⟩).getD k .none = ⟨g0 + 1, true, m.objs.length⟩ := by rw [List.getD_eq_getElem?_getD, hs]; rfl
  rw [h.hM, rightErr, if_pos (by simp; omega), if_pos]
  rw [Int.toNat_natCast, hgd]
  exact ⟨rfl, rfl⟩
theorem Alld.own : own (allM m t) k = m.objs.length := by
  rw [L20.own, Int.toNat_natCast, h.hM, List.getD_eq_getElem?_getD, h.slot]; simp
theorem Alld.idle : ¬ Busy (allM m t) k m.objs.length := by
  obtain ⟨h8, h960, h16, hty, hobs, hsl⟩ := chk_ok h.hc
  rw [h.hM]
  rintro (⟨i, hi, hne, hu, ha⟩ | ⟨i, hi, hne, j, hj, hr⟩)
  · have hik : k ≠ i := fun e => hne (by rw [e])
    have hi' : i < m.slots.length := by simpa using hi
    have e : (m.slots.set k ⟨g0 + 1, true, m.objs.length⟩).getD i .none = m.slots[i] := by
      rw [List.getD_eq_getElem?_getD, List.getElem?_set_ne hik, List.getElem?_eq_getElem hi']; rfl
    dsimp only at hu ha
    rw [e] at hu ha
    have := (hsl _ (List.getElem_mem hi')).2.2 hu
    omega
  · have hi' : i < m.objs.length := by simp at hi; omega
    have e : ob ⟨m.types, m.objs ++ [newO m t], m.slots.set k ⟨g0 + 1, true, m.objs.length⟩⟩ i = m.objs[i] := by
      simp [ob, List.getD_eq_getElem?_getD, List.getElem?_append_left hi', List.getElem?_eq_getElem hi']
    rw [e] at hj hr
    have := ((hobs _ (List.getElem_mem hi')).2.2 j hj).2 hr.1
    have h2 := hr.2
    omega
theorem Alld.asked : asked (allM m t) k (g0 + 1) = 0 := by rw [L20.asked, if_pos h.ok, h.right]
theorem Alld.free : freeE (allM m t) k (g0 + 1) = 0 := by rw [freeE, if_pos h.asked, h.own, if_neg h.idle]
theorem Alld.freed : freeM (allM m t) k (g0 + 1) = ⟨m.types, m.objs, m.slots.set k ⟨g0 + 1, false, 0⟩⟩ := by
  obtain ⟨h8, h960, h16, hty, hobs, hsl⟩ := chk_ok h.hc
  have hn := h.hn
  rw [freeM, if_pos h.free, h.own, h.hM, Int.toNat_natCast]
  dsimp only
  congr 1
  · rw [List.map_append, List.eraseIdx_append_of_length_le (by simp)]
    simp only [List.length_map, Nat.sub_self, List.map_cons, List.map_nil, List.eraseIdx_cons_zero, List.append_nil]
    conv => rhs; rw [← List.map_id m.objs]
    refine List.map_congr_left fun o ho => ?_
    obtain ⟨a1, a2, a3⟩ := hobs o ho
    rw [lowO, id]
    obtain ⟨oty, ofs⟩ := o
    congr 1
    apply List.ext_getElem?
    intro i
    rcases Nat.lt_or_ge i ofs.length with hi | hi
    · have h3 := (a3 i hi).2
      rw [List.getElem?_map, List.getElem?_range hi, Option.map_some, List.getElem?_eq_getElem hi]
      congr 1
      have hg : ofs.getD i 0 = ofs[i] := by rw [List.getD_eq_getElem?_getD, List.getElem?_eq_getElem hi]; rfl
      rw [lowV, if_neg, hg]
      rintro ⟨c1, c2⟩
      have := h3 c1
      omega
    · rw [List.getElem?_eq_none (by simpa using hi), List.getElem?_eq_none hi]
  · rw [List.set_set]
    conv => rhs; rw [← List.map_id (m.slots.set k ⟨g0 + 1, false, 0⟩)]
    refine List.map_congr_left fun s hs => ?_
    rw [lowS, id]
    rcases List.mem_or_eq_of_mem_set hs with hs | hs
    · split
      · rename_i hu
        have := (hsl s hs).2.2 hu
        obtain ⟨sg, su, sa⟩ := s
        dsimp only at hu this ⊢
        subst hu
        rw [lowA, if_neg (by omega)]
      · rfl
    · subst hs; rfl
theorem Alld.back : (m.slots.set k ⟨g0 + 1, false, 0⟩).set k ⟨g0, false, 0⟩ = m.slots := by
  rw [List.set_set]
  apply List.ext_getElem?
  intro i
  by_cases hi : k = i
  · subst hi
    rw [List.getElem?_set_self (List.getElem?_eq_some_iff.1 h.hs).1, h.hs]
  · rw [List.getElem?_set_ne hi]
end
/-- the slot of a dropped handle, put back -/
theorem drop_back {m : Mo} {k : Nat} {s s' : Sl} (hs : m.slots[k]? = some s) : (m.slots.set k s').set k s = m.slots := by
  rw [List.set_set]
  apply List.ext_getElem?
  intro i
  by_cases hi : k = i
  · subst hi
    rw [List.getElem?_set_self (List.getElem?_eq_some_iff.1 hs).1, hs]
  · rw [List.getElem?_set_ne hi]
end Go.Proofs.Ytgjpohhafmkhcaa.L20
namespace Go.Proofs.Ytgjpohhafmkhcaa
open Go.RowKit L02 L13 L18 L20
set_option maxRecDepth 100000 in
set_option maxHeartbeats 16000000 in
theorem ModelFrees_walk (tv ov sv : Value) (m : Mo) (ti : Int) (a0 b0 : Int) (w : World) (h : Mod w tv ov sv m) (_f1 : -9223372036854775808 ≤ ti ∧ ti ≤ 9223372036854775807) (_f2 : -9223372036854775808 ≤ a0 ∧ a0 ≤ 9223372036854775807) (_f3 : -9223372036854775808 ≤ b0 ∧ b0 ≤ 9223372036854775807) :
    Calls Try.prog 6 #[.agg #[tv, ov, sv], .int .i64 ti, .agg #[.int .i64 a0, .int .i64 b0]] w fun e w' => e = .returned (.bool true) ∧ Below w.heap.size w w' := by
  have B : Below w.heap.size w w := Below.refl _ _
  have hm := h
  have H := Lib.hid h
  obtain ⟨⟨tA, tn, tc, rfl⟩, ⟨oA, on, oc, rfl⟩, ⟨sA, sn, sc, rfl⟩⟩ := h.forms
  obtain ⟨b, hb⟩ : ∃ b, b = decide (¬ Great m ∧ chk m = 0) := ⟨_, rfl⟩
  have FT := Lib.hid (fun w h => fit_any (.slice tA tn tc) (.slice oA on oc) (.slice sA sn sc) m b hb w h)
  clear h
  cases b
  · clear hb
    go_enter Try.func6, Try.ntmps6
    go_upto_region 1 with (fail)
    refine wp_gen (fun Wv => Bx Wv (w.heap.size) (26) (#[.slice tA tn tc, .slice oA on oc, .slice sA sn sc]) ∧ Bx Wv (w.heap.size + 1) (28) (#[.int .i64 a0, .int .i64 b0]) ∧ Below w.heap.size w Wv) ⟨(((Bx.at_ (by simp)).alloc _)), ((Bx.at_ (by simp))), (((Below.refl _ w).alloc (by simp <;> omega) _).alloc (by simp <;> omega) _)⟩ ?_
    rintro wa1 ⟨g1, g2, b⟩
    replace hm := hm.below b; replace B := B.trans (b.mono B.size); clear b
    have c_g1 := g1.cell; have f_g1 := g1.free; have a_g1 := fun o => (g1.alloc o).cell; have d_g1 := fun o o2 => ((g1.alloc o).alloc o2).cell; have e_g1 := fun o => (g1.alloc o).free
    have c_g2 := g2.cell; have f_g2 := g2.free; have a_g2 := fun o => (g2.alloc o).cell; have d_g2 := fun o o2 => ((g2.alloc o).alloc o2).cell; have e_g2 := fun o => (g2.alloc o).free
    go_wp2_with fail
    refine (alive20_any _).mono ?_
    rintro e wa2 ⟨rfl, b⟩
    replace hm := hm.below b; try clear c_g1 f_g1 a_g1 d_g1 e_g1
    replace g1 := g1.below b; have c_g1 := g1.cell; have f_g1 := g1.free; have a_g1 := fun o => (g1.alloc o).cell; have d_g1 := fun o o2 => ((g1.alloc o).alloc o2).cell; have e_g1 := fun o => (g1.alloc o).free; try clear c_g2 f_g2 a_g2 d_g2 e_g2
    replace g2 := g2.below b; have c_g2 := g2.cell; have f_g2 := g2.free; have a_g2 := fun o => (g2.alloc o).cell; have d_g2 := fun o o2 => ((g2.alloc o).alloc o2).cell; have e_g2 := fun o => (g2.alloc o).free; replace B := B.trans (b.mono B.size); clear b
    go_wp2_with fail
    refine (FT.out _ hm).mono ?_
    rintro e wa3 ⟨rfl, b⟩
    replace hm := hm.below b; try clear c_g1 f_g1 a_g1 d_g1 e_g1
    replace g1 := g1.below b; have c_g1 := g1.cell; have f_g1 := g1.free; have a_g1 := fun o => (g1.alloc o).cell; have d_g1 := fun o o2 => ((g1.alloc o).alloc o2).cell; have e_g1 := fun o => (g1.alloc o).free; try clear c_g2 f_g2 a_g2 d_g2 e_g2
    replace g2 := g2.below b; have c_g2 := g2.cell; have f_g2 := g2.free; have a_g2 := fun o => (g2.alloc o).cell; have d_g2 := fun o o2 => ((g2.alloc o).alloc o2).cell; have e_g2 := fun o => (g2.alloc o).free; replace B := B.trans (b.mono B.size); clear b
    go_wp2
    go_ret
    exact ⟨rfl, B⟩
  · obtain ⟨hng, hc⟩ := of_decide_eq_true hb.symm
    have hsm := small_of hng (by unfold Great at hng; omega)
    obtain ⟨h8, h960, h16, _⟩ := chk_ok hc
    obtain ⟨r0, hr0⟩ : ∃ r, r = asked m a0 b0 := ⟨_, rfl⟩
    obtain ⟨M1, hM1⟩ : ∃ r, r = dropM m a0 b0 := ⟨_, rfl⟩
    have DT := Lib.hid (fun t o s w h => Drop20_any t o s m a0 b0 M1 r0 hM1 hr0 w h)
    have HR0 := Lib.hid hr0; have HM1 := Lib.hid hM1; clear hr0 hM1
    have HC := Lib.hid hc; have HSM := Lib.hid hsm; have H16 := Lib.hid h16
    clear hb hng hc hsm h16
    go_enter Try.func6, Try.ntmps6
    go_upto_region 1 with (fail)
    refine wp_gen (fun Wv => Bx Wv (w.heap.size) (26) (#[.slice tA tn tc, .slice oA on oc, .slice sA sn sc]) ∧ Bx Wv (w.heap.size + 1) (28) (#[.int .i64 a0, .int .i64 b0]) ∧ Below w.heap.size w Wv) ⟨(((Bx.at_ (by simp)).alloc _)), ((Bx.at_ (by simp))), (((Below.refl _ w).alloc (by simp <;> omega) _).alloc (by simp <;> omega) _)⟩ ?_
    rintro wa1 ⟨g1, g2, b⟩
    replace hm := hm.below b; replace B := B.trans (b.mono B.size); clear b
    have c_g1 := g1.cell; have f_g1 := g1.free; have a_g1 := fun o => (g1.alloc o).cell; have d_g1 := fun o o2 => ((g1.alloc o).alloc o2).cell; have e_g1 := fun o => (g1.alloc o).free
    have c_g2 := g2.cell; have f_g2 := g2.free; have a_g2 := fun o => (g2.alloc o).cell; have d_g2 := fun o o2 => ((g2.alloc o).alloc o2).cell; have e_g2 := fun o => (g2.alloc o).free
    go_wp2_with fail
    refine (alive20_any _).mono ?_
    rintro e wa2 ⟨rfl, b⟩
    replace hm := hm.below b; try clear c_g1 f_g1 a_g1 d_g1 e_g1
    replace g1 := g1.below b; have c_g1 := g1.cell; have f_g1 := g1.free; have a_g1 := fun o => (g1.alloc o).cell; have d_g1 := fun o o2 => ((g1.alloc o).alloc o2).cell; have e_g1 := fun o => (g1.alloc o).free; try clear c_g2 f_g2 a_g2 d_g2 e_g2
    replace g2 := g2.below b; have c_g2 := g2.cell; have f_g2 := g2.free; have a_g2 := fun o => (g2.alloc o).cell; have d_g2 := fun o o2 => ((g2.alloc o).alloc o2).cell; have e_g2 := fun o => (g2.alloc o).free; replace B := B.trans (b.mono B.size); clear b
    go_wp2_with fail
    refine (FT.out _ hm).mono ?_
    rintro e wa3 ⟨rfl, b⟩
    replace hm := hm.below b; try clear c_g1 f_g1 a_g1 d_g1 e_g1
    replace g1 := g1.below b; have c_g1 := g1.cell; have f_g1 := g1.free; have a_g1 := fun o => (g1.alloc o).cell; have d_g1 := fun o o2 => ((g1.alloc o).alloc o2).cell; have e_g1 := fun o => (g1.alloc o).free; try clear c_g2 f_g2 a_g2 d_g2 e_g2
    replace g2 := g2.below b; have c_g2 := g2.cell; have f_g2 := g2.free; have a_g2 := fun o => (g2.alloc o).cell; have d_g2 := fun o o2 => ((g2.alloc o).alloc o2).cell; have e_g2 := fun o => (g2.alloc o).free; replace B := B.trans (b.mono B.size); clear b
    clear FT
    go_upto_region 4 with (fail)
    go_wp2_with fail
    refine (DT.out _ _ _ _ hm).mono ?_
    rintro e wa4 ⟨t1, o1, s1, rfl, k1, b⟩
    replace hm := hm.below b; try clear c_g1 f_g1 a_g1 d_g1 e_g1
    replace g1 := g1.below b; have c_g1 := g1.cell; have f_g1 := g1.free; have a_g1 := fun o => (g1.alloc o).cell; have d_g1 := fun o o2 => ((g1.alloc o).alloc o2).cell; have e_g1 := fun o => (g1.alloc o).free; try clear c_g2 f_g2 a_g2 d_g2 e_g2
    replace g2 := g2.below b; have c_g2 := g2.cell; have f_g2 := g2.free; have a_g2 := fun o => (g2.alloc o).cell; have d_g2 := fun o o2 => ((g2.alloc o).alloc o2).cell; have e_g2 := fun o => (g2.alloc o).free; replace B := B.trans (b.mono B.size); clear b
    obtain ⟨⟨t1A, t1n, t1c, rfl⟩, ⟨o1A, o1n, o1c, rfl⟩, ⟨s1A, s1n, s1c, rfl⟩⟩ := k1.forms
    go_upto_region 5 with (fail)
    refine wp_gen (fun Wv => Bx Wv (wa4.heap.size) (26) (#[.slice t1A t1n t1c, .slice o1A o1n o1c, .slice s1A s1n s1c]) ∧ Below wa4.heap.size wa4 Wv) ⟨((Bx.at_ (by simp))), ((Below.refl _ wa4).alloc (by simp <;> omega) _)⟩ ?_
    rintro wa5 ⟨g3, b⟩
    replace k1 := k1.below b; replace hm := hm.below b; try clear c_g1 f_g1 a_g1 d_g1 e_g1
    replace g1 := g1.below b; have c_g1 := g1.cell; have f_g1 := g1.free; have a_g1 := fun o => (g1.alloc o).cell; have d_g1 := fun o o2 => ((g1.alloc o).alloc o2).cell; have e_g1 := fun o => (g1.alloc o).free; try clear c_g2 f_g2 a_g2 d_g2 e_g2
    replace g2 := g2.below b; have c_g2 := g2.cell; have f_g2 := g2.free; have a_g2 := fun o => (g2.alloc o).cell; have d_g2 := fun o o2 => ((g2.alloc o).alloc o2).cell; have e_g2 := fun o => (g2.alloc o).free; replace B := B.trans (b.mono B.size); clear b
    have c_g3 := g3.cell; have f_g3 := g3.free; have a_g3 := fun o => (g3.alloc o).cell; have d_g3 := fun o o2 => ((g3.alloc o).alloc o2).cell; have e_g3 := fun o => (g3.alloc o).free
    go_upto_if 35 with (fail)
    go_cut [] (fun wx => Hid (Bx wx w.heap.size 26 #[.slice tA tn tc, .slice oA on oc, .slice sA sn sc] ∧ Below w.heap.size w wx))
    case first =>
      by_cases ha : r0 = 0
      · obtain ⟨c0, hr1, k, s, n', o, t, hk, hk16, hs, hu, hg, hso, hat, hown, _⟩ := asked_ok (HR0.out.symm.trans ha)
        have hM := HM1.out
        rw [dropM, if_pos (HR0.out.symm.trans ha), hk, Int.toNat_natCast] at hM
        subst hk
        have hsmall : Small M1 := by
          obtain ⟨x1, x2, x3, x4, x5⟩ := HSM.out
          rw [hM]; exact ⟨x1, x2, by simpa using x3, x4, x5⟩
        have TT := Lib.hid (fun w h => Twin_any (.slice t1A t1n t1c) (.slice o1A o1n o1c) (.slice s1A s1n s1c) M1 hsmall w h)
        obtain ⟨sg, su, sa⟩ := s
        dsimp only at hu hg
        subst hu; subst hg; subst ha
        have HM := Lib.hid hM; have HS := Lib.hid hs
        clear hso hat hown c0 hr1 hM hs hsmall
        go_upto_region 6 with (fail)
        have hz5 := B.size
        go_wp2_with fail
        refine (TT.out _ k1).mono ?_
        rintro e wa6 ⟨t2, o2, s2, rfl, om, b⟩
        replace k1 := k1.below b; replace hm := hm.below b; try clear c_g1 f_g1 a_g1 d_g1 e_g1
        replace g1 := g1.below b; have c_g1 := g1.cell; have f_g1 := g1.free; have a_g1 := fun o => (g1.alloc o).cell; have d_g1 := fun o o2 => ((g1.alloc o).alloc o2).cell; have e_g1 := fun o => (g1.alloc o).free; try clear c_g2 f_g2 a_g2 d_g2 e_g2
        replace g2 := g2.below b; have c_g2 := g2.cell; have f_g2 := g2.free; have a_g2 := fun o => (g2.alloc o).cell; have d_g2 := fun o o2 => ((g2.alloc o).alloc o2).cell; have e_g2 := fun o => (g2.alloc o).free; replace B := B.trans (b.mono B.size); clear b
        obtain ⟨⟨t2A, t2n, t2c, rfl⟩, ⟨o2A, o2n, o2c, rfl⟩, _⟩ := om.rd.forms
        have hl16 : M1.slots.length = 16 := by rw [HM.out]; simpa using H16.out
        obtain ⟨gS, sC, rfl⟩ : ∃ g c, s2 = .slice (some ⟨g, 0, none⟩) 16 c := by obtain ⟨g, n, c, e, e2⟩ := om.s.form (by omega); rw [e2, hl16] at e; exact ⟨g, c, e⟩
        have hgS := om.s.lt gS rfl
        have hms : M1.slots[k]? = some ⟨sg, false, 0⟩ := by
          rw [HM.out]; exact List.getElem?_set_self (by have := H16.out; omega)
        go_upto_region 7 with (fail)
        refine wp_gen (fun Wv => Bx Wv (wa6.heap.size) (26) (#[.slice t2A t2n t2c, .slice o2A o2n o2c, .slice (some ⟨gS, 0, none⟩) 16 sC]) ∧ Below wa6.heap.size wa6 Wv) ⟨((Bx.at_ (by simp))), ((Below.refl _ wa6).alloc (by simp <;> omega) _)⟩ ?_
        rintro wa7 ⟨g4, b⟩
        replace k1 := k1.below b; replace hm := hm.below b; try clear c_g1 f_g1 a_g1 d_g1 e_g1
        replace g1 := g1.below b; have c_g1 := g1.cell; have f_g1 := g1.free; have a_g1 := fun o => (g1.alloc o).cell; have d_g1 := fun o o2 => ((g1.alloc o).alloc o2).cell; have e_g1 := fun o => (g1.alloc o).free; try clear c_g2 f_g2 a_g2 d_g2 e_g2
        replace g2 := g2.below b; have c_g2 := g2.cell; have f_g2 := g2.free; have a_g2 := fun o => (g2.alloc o).cell; have d_g2 := fun o o2 => ((g2.alloc o).alloc o2).cell; have e_g2 := fun o => (g2.alloc o).free; replace om := om.below b; replace B := B.trans (b.mono B.size); clear b
        have c_g4 := g4.cell; have f_g4 := g4.free; have a_g4 := fun o => (g4.alloc o).cell; have d_g4 := fun o o2 => ((g4.alloc o).alloc o2).cell; have e_g4 := fun o => (g4.alloc o).free
        have l1 := om.rd.s.len
        rw [hl16] at l1
        have l2 := hm.s.len
        rw [H16.out] at l2
        obtain ⟨ix, p0, p1, p2⟩ := OwnS.cells om.s hms
        have HMS := Lib.hid hms; clear hms
        dsimp only at p0 p1 p2
        have n1 : ¬ (k : Int) < 0 := by omega
        have n2 : ¬ (16 : Int) ≤ (k : Int) := by omega
        have HL := Lib.hid hl16; clear hl16
        go_big_quiet (fail)
        go_upto_region 9 with (fail)
        refine wp_gen (fun Wv => OwnM Wv wa5.heap.size 67 (.slice t2A t2n t2c) (.slice o2A o2n o2c) (.slice (some ⟨gS, 0, none⟩) 16 sC) M1 ∧ Mod Wv (.slice tA tn tc) (.slice oA on oc) (.slice sA sn sc) m ∧ Bx Wv w.heap.size 26 #[.slice tA tn tc, .slice oA on oc, .slice sA sn sc] ∧ Bx Wv (w.heap.size + 1) 28 #[.int .i64 k, .int .i64 sg] ∧ Bx Wv wa6.heap.size 26 #[.slice t2A t2n t2c, .slice o2A o2n o2c, .slice (some ⟨gS, 0, none⟩) 16 sC] ∧ Below w.heap.size w Wv) ⟨⟨om.t, om.o, om.s⟩, ⟨hm.t, hm.o, hm.s⟩, g1.drewN _, g2.drewN _, g4.drewN _, below_drewN B _⟩ ?_
        clear om hm g1 g2 g3 g4 B k1 c_g1 f_g1 a_g1 d_g1 e_g1 c_g2 f_g2 a_g2 d_g2 e_g2 c_g3 f_g3 a_g3 d_g3 e_g3 c_g4 f_g4 a_g4 d_g4 e_g4 ix p0 p1 p2 l1 l2
        rintro w8 ⟨om, hm, g1, g2, g4, B⟩
        obtain ⟨ix, p0, p1, p2⟩ := OwnS.cells om.s HMS.out
        dsimp only at p0 p1 p2
        obtain ⟨bm, qm, sm, jx, j0, j1, j2, hsm2⟩ := hm.s.at_ (P := Try.prog) Try.underlying24 size_slot (k := k) (by have := H16.out; omega)
        obtain rfl : sm = ⟨sg, true, sa⟩ := by have := hsm2.out; rw [HS.out] at this; injection this with this; exact this.symm
        dsimp only at j0 j1 j2
        have omd : OwnM w8.drew wa5.heap.size 67 (.slice t2A t2n t2c) (.slice o2A o2n o2c) (.slice (some ⟨gS, 0, none⟩) 16 sC) M1 := ⟨om.t, om.o, om.s⟩
        have HP := OwnS.put3 (k := k) omd.s (by have := HL.out; omega) ⟨sg, true, sa⟩
        have fz : ∀ j, w8.frozen? ⟨gS, j, none⟩ = false := HP.2.2.2.2
        have hM3 := OwnM.slots omd HP.2.1 HP.1
        have hMm : (⟨M1.types, M1.objs, M1.slots.set k ⟨sg, true, sa⟩⟩ : Mo) = m := by rw [HM.out]; dsimp only; rw [drop_back HS.out]
        rw [hMm] at hM3
        have ne1 : gS ≠ w.heap.size := by
          rcases own_not_bx om.s g1 (by decide) with h | h
          · simp [Value.ownBlock] at h
          · intro e; exact h (by simp [Value.ownBlock, e])
        have ne4 : gS ≠ wa6.heap.size := by omega
        have nx := fun {q : Nat} {tq : TypeId} {cs : Array Value} (hb : Bx w8.drew q tq cs) (hne : gS ≠ q) => hb.grown HP.2.1 (.inr (fun e => hne (by injection e)))
        have r1 := nx g1 ne1; have r4 := nx g4 ne4
        have hgw : w.heap.size ≤ gS := by have := hgS.1; omega
        have hb8 := B.drew.grown HP.2.1 B.size (fun k hk => by injection hk with hk; rw [← hk]; exact hgw)
        have HH := Lib.hid (And.intro hM3 (And.intro r1 (And.intro r4 hb8)))
        have c_1 := g1.cell; have c_2 := g2.cell; have c_4 := g4.cell
        clear nx r1 r4 hb8 hM3 HP omd
        refine wp_region_qtail 11 (by kernel_rfl) (by kernel_rfl) ?_
        simp only [List.take_succ_cons, List.take_zero, List.drop_succ_cons, List.drop_zero]
        iterate 11 (go_big_quiet_step (fail))
        refine wpQuiet_nil ?_
        go_upto_region 10 with (fail)
        refine wp_gen (fun Wv => OwnM Wv wa5.heap.size 67 (.slice t2A t2n t2c) (.slice o2A o2n o2c) (.slice (some ⟨gS, 0, none⟩) 16 sC) m ∧ Bx Wv w.heap.size 26 #[.slice tA tn tc, .slice oA on oc, .slice sA sn sc] ∧ Bx Wv wa6.heap.size 26 #[.slice t2A t2n t2c, .slice o2A o2n o2c, .slice (some ⟨gS, 0, none⟩) 16 sC] ∧ Below w.heap.size w Wv) HH.out ?_
        clear HH c_1 c_2 c_4 fz om hm g1 g2 g4 B ix p0 p1 p2 jx j0 j1 j2
        rintro w9 ⟨om, g1, g4, B⟩
        have SM := Lib.hid (fun w ha hb => Same20_any (.slice t2A t2n t2c) (.slice o2A o2n o2c) (.slice (some ⟨gS, 0, none⟩) 16 sC) (.slice tA tn tc) (.slice oA on oc) (.slice sA sn sc) m m true (by simp) w ha hb)
        have c_g1 := g1.cell; have c_g4 := g4.cell
        go_wp2_with fail
        refine (SM.out _ om.rd (H.out.below B)).mono ?_
        rintro e wa8 ⟨rfl, b⟩
        try clear c_g1 f_g1 a_g1 d_g1 e_g1
        replace g1 := g1.below b; have c_g1 := g1.cell; have f_g1 := g1.free; have a_g1 := fun o => (g1.alloc o).cell; have d_g1 := fun o o2 => ((g1.alloc o).alloc o2).cell; have e_g1 := fun o => (g1.alloc o).free; replace B := B.trans (b.mono B.size); clear b
        have HG := Lib.hid (And.intro g1 B)
        clear g1 B om g4 c_g1 c_g4
        go_wp2
        go_meet
        exact HG
      · have HG := Lib.hid (And.intro g1 B)
        have hne : (r0 == 0) = false := by rw [beq_eq_false_iff_ne]; exact ha
        go_wp2
        go_meet
        exact HG
    case rest =>
      obtain ⟨g1, B⟩ := hcut.out
      clear hcut DT HR0 HM1
      obtain ⟨r1, hr1⟩ : ∃ r, r = allE m ti := ⟨_, rfl⟩
      obtain ⟨M2, hM2⟩ : ∃ r, r = allM m ti := ⟨_, rfl⟩
      obtain ⟨s2, hs2⟩ : ∃ r, r = allS m ti := ⟨_, rfl⟩
      obtain ⟨q2, hq2⟩ : ∃ r, r = allG m ti := ⟨_, rfl⟩
      have AL := Lib.hid (fun t o s w h => Alloc20_any t o s m ti M2 r1 s2 q2 hM2 hr1 hs2 hq2 w h)
      have HR1 := Lib.hid (And.intro hr1 (And.intro hM2 (And.intro hs2 hq2)))
      clear hr1 hM2 hs2 hq2
      have c_g1 := g1.cell
      go_wp2_with fail
      refine (AL.out _ _ _ _ (H.out.below B)).mono ?_
      rintro e wa9 ⟨t3, o3, s3, rfl, k3, b⟩
      try clear c_g1 f_g1 a_g1 d_g1 e_g1
      replace g1 := g1.below b; have c_g1 := g1.cell; have f_g1 := g1.free; have a_g1 := fun o => (g1.alloc o).cell; have d_g1 := fun o o2 => ((g1.alloc o).alloc o2).cell; have e_g1 := fun o => (g1.alloc o).free; replace B := B.trans (b.mono B.size); clear b
      obtain ⟨⟨t3A, t3n, t3c, rfl⟩, ⟨o3A, o3n, o3c, rfl⟩, ⟨s3A, s3n, s3c, rfl⟩⟩ := k3.forms
      go_upto_region 13 with (fail)
      refine wp_gen (fun Wv => Bx Wv (wa9.heap.size) (26) (#[.slice t3A t3n t3c, .slice o3A o3n o3c, .slice s3A s3n s3c]) ∧ Bx Wv (wa9.heap.size + 1) (28) (#[.int .i64 s2, .int .i64 q2]) ∧ Below wa9.heap.size wa9 Wv) ⟨(((Bx.at_ (by simp)).alloc _)), ((Bx.at_ (by simp))), (((Below.refl _ wa9).alloc (by simp <;> omega) _).alloc (by simp <;> omega) _)⟩ ?_
      rintro wa10 ⟨g5, g6, b⟩
      try clear c_g1 f_g1 a_g1 d_g1 e_g1
      replace g1 := g1.below b; have c_g1 := g1.cell; have f_g1 := g1.free; have a_g1 := fun o => (g1.alloc o).cell; have d_g1 := fun o o2 => ((g1.alloc o).alloc o2).cell; have e_g1 := fun o => (g1.alloc o).free; replace k3 := k3.below b; replace B := B.trans (b.mono B.size); clear b
      have c_g5 := g5.cell; have f_g5 := g5.free; have a_g5 := fun o => (g5.alloc o).cell; have d_g5 := fun o o2 => ((g5.alloc o).alloc o2).cell; have e_g5 := fun o => (g5.alloc o).free
      have c_g6 := g6.cell; have f_g6 := g6.free; have a_g6 := fun o => (g6.alloc o).cell; have d_g6 := fun o o2 => ((g6.alloc o).alloc o2).cell; have e_g6 := fun o => (g6.alloc o).free
      have lt := (H.out.below B).t.len
      have lo := (H.out.below B).o.len
      have ls := (H.out.below B).s.len
      by_cases he : r1 = 0
      · obtain ⟨k, g0, A⟩ := Alld.of (HR1.out.1.symm.trans he)
        obtain ⟨_, e1, e2, e3⟩ := HR1.out
        obtain rfl : s2 = (k : Int) := e2.trans A.hS
        obtain rfl : q2 = g0 + 1 := e3.trans A.hG
        subst he
        clear e2 e3
        have k2 := A.ok; have lenx := A.len; have slx := A.slot; have obx := A.obj; have rgx := A.right; have idx := A.idle; have frx := A.free; have fmx := A.freed; have hMx := A.hM
        rw [← e1] at k2 lenx obx rgx idx frx fmx hMx
        obtain ⟨N, hN⟩ : ∃ N, N = m.objs.length := ⟨_, rfl⟩
        have hN9 : N < 960 := by rw [hN]; exact A.hn
        have hk16 := A.hk; have hg0 := A.hg
        rw [← hN] at lenx slx obx idx lo
        have slx2 : M2.slots[k]? = some ⟨g0 + 1, true, N⟩ := by rw [hMx, ← hN]; exact slx
        have KA := Lib.hid (fun t o s w h => Check20_any t o s M2 0 k2.symm w h)
        have KB := Lib.hid (fun t o s w h => CheckR20_any t o s M2 0 k2.symm w h)
        have RR := Lib.hid (fun v w h => RightR_any v M2.slots k (g0 + 1) 0 rgx.symm w h)
        have BT := Lib.hid (fun t o s w h => Busy_any t o s M2 k N false (by rw [decide_eq_false idx]) k2 (by omega) w h)
        obtain ⟨M3, hM3⟩ : ∃ M, M = (⟨m.types, m.objs, m.slots.set k ⟨g0 + 1, false, 0⟩⟩ : Mo) := ⟨_, rfl⟩
        have FR := Lib.hid (fun t o s w h => Free20_any t o s M2 k (g0 + 1) M3 0 (by rw [fmx, hM3]) frx.symm w h)
        have lx := k3.o.len
        rw [lenx] at lx
        have lx' : ∀ ty W, (Builtin.len_ #[23] ty #[.slice o3A o3n o3c]).run Try.prog W = .ok (.int .i64 ((N : Int) + 1)) W := lx
        have hwr : IntKind.i64.wrap ((N : Int) + 1) = (N : Int) + 1 := IntWalk.i64_in _ (by omega)
        have M16 : M2.slots.length = 16 := (chk_ok k2).2.2.1
        obtain ⟨bm, qm, sm, jx, m0, m1, m2, hsm⟩ := k3.s.at_ (P := Try.prog) Try.underlying24 size_slot (k := k) (by omega)
        obtain rfl : sm = ⟨g0 + 1, true, N⟩ := by have := hsm.out; rw [slx2] at this; injection this with this; exact this.symm
        dsimp only at m0 m1 m2
        obtain ⟨bo, qo, xv, ov', jo, m3, m4, hov, hW, hbo⟩ := k3.o.at_ (k := N) (by omega)
        obtain rfl : ov' = newO m ti := by have := hov.out; rw [obx] at this; injection this with this; exact this.symm
        dsimp only [newO] at m3
        obtain ⟨xA, xn, xc, rfl⟩ : ∃ A n c, xv = .slice A n c := by obtain ⟨A, c, e, _⟩ := hW.out; exact ⟨_, _, _, e⟩
        have HSX := Lib.hid slx2; have HE := Lib.hid hM3; have HA := Lib.hid A; have HN := Lib.hid hN; have HK2 := Lib.hid k2
        clear A e1 k2 lenx slx obx rgx idx frx fmx hMx hN slx2 hM3 lx AL lt ls
        have k5 := hW.out
        obtain ⟨fl, hfl⟩ : ∃ fl, fl = (newO m ti).fs := ⟨_, rfl⟩
        rw [← hfl] at k5
        have hz0 : ∀ (j : Nat) (x : UInt64), fl[j]? = some x → x.toNat = 0 := fun j x hx => by
          rw [hfl, newO, List.getElem?_replicate] at hx
          split at hx
          · injection hx with hx; rw [← hx]; rfl
          · cases hx
        have lf := Rd.len k5 Try.underlying70
        obtain ⟨L, hL⟩ : ∃ L, L = fl.length := ⟨_, rfl⟩
        rw [← hL] at lf
        have HZ0 := Lib.hid hz0; have HL := Lib.hid hL
        have hL63 : L ≤ 9223372036854775807 := by rw [hL]; exact Rd.len_le k5
        clear hz0 hL hfl hW hov hsm
        go_wp2_with fail
        refine (KA.out _ _ _ _ k3).mono ?_
        rintro e wa11 ⟨rfl, b⟩
        replace k3 := k3.below b; replace k5 := k5.below b; try clear c_g1 f_g1 a_g1 d_g1 e_g1
        replace g1 := g1.below b; have c_g1 := g1.cell; have f_g1 := g1.free; have a_g1 := fun o => (g1.alloc o).cell; have d_g1 := fun o o2 => ((g1.alloc o).alloc o2).cell; have e_g1 := fun o => (g1.alloc o).free; try clear c_g5 f_g5 a_g5 d_g5 e_g5
        replace g5 := g5.below b; have c_g5 := g5.cell; have f_g5 := g5.free; have a_g5 := fun o => (g5.alloc o).cell; have d_g5 := fun o o2 => ((g5.alloc o).alloc o2).cell; have e_g5 := fun o => (g5.alloc o).free; try clear c_g6 f_g6 a_g6 d_g6 e_g6
        replace g6 := g6.below b; have c_g6 := g6.cell; have f_g6 := g6.free; have a_g6 := fun o => (g6.alloc o).cell; have d_g6 := fun o o2 => ((g6.alloc o).alloc o2).cell; have e_g6 := fun o => (g6.alloc o).free; replace m0 := cell_later b m0; replace m2 := cell_later b m2; replace m3 := cell_later b m3; replace m4 := cell_later b m4; replace B := B.trans (b.mono B.size); clear b
        go_wp2_with fail
        refine (KB.out _ _ _ _ k3).mono ?_
        rintro e wa12 ⟨rfl, b⟩
        replace k3 := k3.below b; replace k5 := k5.below b; try clear c_g1 f_g1 a_g1 d_g1 e_g1
        replace g1 := g1.below b; have c_g1 := g1.cell; have f_g1 := g1.free; have a_g1 := fun o => (g1.alloc o).cell; have d_g1 := fun o o2 => ((g1.alloc o).alloc o2).cell; have e_g1 := fun o => (g1.alloc o).free; try clear c_g5 f_g5 a_g5 d_g5 e_g5
        replace g5 := g5.below b; have c_g5 := g5.cell; have f_g5 := g5.free; have a_g5 := fun o => (g5.alloc o).cell; have d_g5 := fun o o2 => ((g5.alloc o).alloc o2).cell; have e_g5 := fun o => (g5.alloc o).free; try clear c_g6 f_g6 a_g6 d_g6 e_g6
        replace g6 := g6.below b; have c_g6 := g6.cell; have f_g6 := g6.free; have a_g6 := fun o => (g6.alloc o).cell; have d_g6 := fun o o2 => ((g6.alloc o).alloc o2).cell; have e_g6 := fun o => (g6.alloc o).free; replace m0 := cell_later b m0; replace m2 := cell_later b m2; replace m3 := cell_later b m3; replace m4 := cell_later b m4; replace B := B.trans (b.mono B.size); clear b
        go_wp2_with fail
        refine (RR.out _ _ k3.s).mono ?_
        rintro e wa13 ⟨rfl, b⟩
        replace k3 := k3.below b; replace k5 := k5.below b; try clear c_g1 f_g1 a_g1 d_g1 e_g1
        replace g1 := g1.below b; have c_g1 := g1.cell; have f_g1 := g1.free; have a_g1 := fun o => (g1.alloc o).cell; have d_g1 := fun o o2 => ((g1.alloc o).alloc o2).cell; have e_g1 := fun o => (g1.alloc o).free; try clear c_g5 f_g5 a_g5 d_g5 e_g5
        replace g5 := g5.below b; have c_g5 := g5.cell; have f_g5 := g5.free; have a_g5 := fun o => (g5.alloc o).cell; have d_g5 := fun o o2 => ((g5.alloc o).alloc o2).cell; have e_g5 := fun o => (g5.alloc o).free; try clear c_g6 f_g6 a_g6 d_g6 e_g6
        replace g6 := g6.below b; have c_g6 := g6.cell; have f_g6 := g6.free; have a_g6 := fun o => (g6.alloc o).cell; have d_g6 := fun o o2 => ((g6.alloc o).alloc o2).cell; have e_g6 := fun o => (g6.alloc o).free; replace m0 := cell_later b m0; replace m2 := cell_later b m2; replace m3 := cell_later b m3; replace m4 := cell_later b m4; replace B := B.trans (b.mono B.size); clear b
        go_wp2_with fail
        refine (BT.out _ _ _ _ k3).mono ?_
        rintro e wa14 ⟨rfl, b⟩
        replace k3 := k3.below b; replace k5 := k5.below b; try clear c_g1 f_g1 a_g1 d_g1 e_g1
        replace g1 := g1.below b; have c_g1 := g1.cell; have f_g1 := g1.free; have a_g1 := fun o => (g1.alloc o).cell; have d_g1 := fun o o2 => ((g1.alloc o).alloc o2).cell; have e_g1 := fun o => (g1.alloc o).free; try clear c_g5 f_g5 a_g5 d_g5 e_g5
        replace g5 := g5.below b; have c_g5 := g5.cell; have f_g5 := g5.free; have a_g5 := fun o => (g5.alloc o).cell; have d_g5 := fun o o2 => ((g5.alloc o).alloc o2).cell; have e_g5 := fun o => (g5.alloc o).free; try clear c_g6 f_g6 a_g6 d_g6 e_g6
        replace g6 := g6.below b; have c_g6 := g6.cell; have f_g6 := g6.free; have a_g6 := fun o => (g6.alloc o).cell; have d_g6 := fun o o2 => ((g6.alloc o).alloc o2).cell; have e_g6 := fun o => (g6.alloc o).free; replace m0 := cell_later b m0; replace m2 := cell_later b m2; replace m3 := cell_later b m3; replace m4 := cell_later b m4; replace B := B.trans (b.mono B.size); clear b
        go_wp2
        go_loopg [15] L (fun g i wr => ∃ j : Nat, j ≤ L ∧ g = L - j ∧ i = .int .i64 j ∧ wr = wa14)
        case atStart => exact ⟨0, by omega, by omega, rfl, rfl⟩
        case round =>
          obtain ⟨j, hj, rfl, rfl, rfl⟩ := hrel
          by_cases hlt : j < L
          · obtain ⟨ad, x, ia, ca, hx⟩ := k5.at_ (P := Try.prog) Try.underlying70 one_u64 (k := j) (by rw [← HL.out]; exact hlt)
            have hx0 := HZ0.out j x hx.out
            rw [hx0] at ca
            go_wp2
            go_roundg (L - (j + 1))
            case measure => omega
            case rel => exact ⟨j + 1, by omega, rfl, by go_num, rfl⟩
          · obtain rfl : j = L := by omega
            go_upto_region 23 with (fail)
            clear k5 jx jo m0 m1 m2 m3 m4 lf lx' BT RR KA KB hwr hlt hj hbo
            go_wp2_with fail
            refine (FR.out _ _ _ _ k3).mono ?_
            rintro e wa15 ⟨t6, o6, s6, rfl, k6, b⟩
            try clear c_g1 f_g1 a_g1 d_g1 e_g1
            replace g1 := g1.below b; have c_g1 := g1.cell; have f_g1 := g1.free; have a_g1 := fun o => (g1.alloc o).cell; have d_g1 := fun o o2 => ((g1.alloc o).alloc o2).cell; have e_g1 := fun o => (g1.alloc o).free; try clear c_g5 f_g5 a_g5 d_g5 e_g5
            replace g5 := g5.below b; have c_g5 := g5.cell; have f_g5 := g5.free; have a_g5 := fun o => (g5.alloc o).cell; have d_g5 := fun o o2 => ((g5.alloc o).alloc o2).cell; have e_g5 := fun o => (g5.alloc o).free; try clear c_g6 f_g6 a_g6 d_g6 e_g6
            replace g6 := g6.below b; have c_g6 := g6.cell; have f_g6 := g6.free; have a_g6 := fun o => (g6.alloc o).cell; have d_g6 := fun o o2 => ((g6.alloc o).alloc o2).cell; have e_g6 := fun o => (g6.alloc o).free; replace B := B.trans (b.mono B.size); clear b
            obtain ⟨⟨t6A, t6n, t6c, rfl⟩, ⟨o6A, o6n, o6c, rfl⟩, ⟨s6A, s6n, s6c, rfl⟩⟩ := k6.forms
            go_upto_region 24 with (fail)
            refine wp_gen (fun Wv => Bx Wv (wa15.heap.size) (26) (#[.slice t6A t6n t6c, .slice o6A o6n o6c, .slice s6A s6n s6c]) ∧ Below wa15.heap.size wa15 Wv) ⟨((Bx.at_ (by simp))), ((Below.refl _ wa15).alloc (by simp <;> omega) _)⟩ ?_
            rintro wa16 ⟨g7, b⟩
            try clear c_g1 f_g1 a_g1 d_g1 e_g1
            replace g1 := g1.below b; have c_g1 := g1.cell; have f_g1 := g1.free; have a_g1 := fun o => (g1.alloc o).cell; have d_g1 := fun o o2 => ((g1.alloc o).alloc o2).cell; have e_g1 := fun o => (g1.alloc o).free; try clear c_g5 f_g5 a_g5 d_g5 e_g5
            replace g5 := g5.below b; have c_g5 := g5.cell; have f_g5 := g5.free; have a_g5 := fun o => (g5.alloc o).cell; have d_g5 := fun o o2 => ((g5.alloc o).alloc o2).cell; have e_g5 := fun o => (g5.alloc o).free; try clear c_g6 f_g6 a_g6 d_g6 e_g6
            replace g6 := g6.below b; have c_g6 := g6.cell; have f_g6 := g6.free; have a_g6 := fun o => (g6.alloc o).cell; have d_g6 := fun o o2 => ((g6.alloc o).alloc o2).cell; have e_g6 := fun o => (g6.alloc o).free; replace k6 := k6.below b; replace B := B.trans (b.mono B.size); clear b
            have c_g7 := g7.cell; have f_g7 := g7.free; have a_g7 := fun o => (g7.alloc o).cell; have d_g7 := fun o o2 => ((g7.alloc o).alloc o2).cell; have e_g7 := fun o => (g7.alloc o).free
            have l16 : M3.slots.length = 16 := by rw [HE.out]; simpa using H16.out
            have ly := k6.s.len
            rw [l16] at ly
            have lz := (H.out.below B).s.len
            rw [H16.out] at lz
            have hy : M3.slots[k]? = some ⟨g0 + 1, false, 0⟩ := by rw [HE.out]; exact List.getElem?_set_self (by have := H16.out; omega)
            obtain ⟨bY, qY, sY, iY, y0, y1, y2, hsY⟩ := k6.s.at_ (P := Try.prog) Try.underlying24 size_slot (k := k) (by omega)
            obtain rfl : sY = ⟨g0 + 1, false, 0⟩ := by have := hsY.out; rw [hy] at this; injection this with this; exact this.symm
            obtain ⟨bZ, qZ, sZ, iZ, z0, z1, z2, hsZ⟩ := (H.out.below B).s.at_ (P := Try.prog) Try.underlying24 size_slot (k := k) (by have := H16.out; omega)
            obtain rfl : sZ = ⟨g0, false, 0⟩ := by have := hsZ.out; rw [HA.out.hs] at this; injection this with this; exact this.symm
            dsimp only at y0 y1 y2 z0 z1 z2
            have hw2 : IntKind.i64.wrap (g0 + 1 - 1) = g0 := by rw [show g0 + 1 - 1 = g0 by omega]; exact IntWalk.i64_in _ (by omega)
            have HY := Lib.hid hy; have HL16 := Lib.hid l16
            clear hy l16
            go_big_quiet (fail)
            go_upto_region 26 with (fail)
            refine wp_gen (fun Wv => Mod Wv (.slice t6A t6n t6c) (.slice o6A o6n o6c) (.slice s6A s6n s6c) M3 ∧ Bx Wv w.heap.size 26 #[.slice tA tn tc, .slice oA on oc, .slice sA sn sc] ∧ Bx Wv (wa9.heap.size + 1) 28 #[.int .i64 k, .int .i64 (g0 + 1)] ∧ Bx Wv wa15.heap.size 26 #[.slice t6A t6n t6c, .slice o6A o6n o6c, .slice s6A s6n s6c] ∧ Below w.heap.size w Wv) ⟨⟨k6.t, k6.o, k6.s⟩, g1.drewN _, g6.drewN _, g7.drewN _, below_drewN B _⟩ ?_
            clear k6 k3 g1 g5 g6 g7 B c_g1 f_g1 a_g1 d_g1 e_g1 c_g5 f_g5 a_g5 d_g5 e_g5 c_g6 f_g6 a_g6 d_g6 e_g6 c_g7 f_g7 a_g7 d_g7 e_g7 iY y0 y1 y2 iZ z0 z1 z2 ly lz FR
            rintro w20 ⟨k6, g1, g6, g7, B⟩
            have hsm3 : Small M3 := by
              obtain ⟨x1, x2, x3, x4, x5⟩ := HSM.out
              rw [HE.out]; exact ⟨x1, x2, by simpa using x3, x4, x5⟩
            have TW := Lib.hid (fun w h => Twin_any (.slice t6A t6n t6c) (.slice o6A o6n o6c) (.slice s6A s6n s6c) M3 hsm3 w h)
            clear hsm3
            have hz20 := B.size
            have c_g1 := g1.cell; have c_g6 := g6.cell; have c_g7 := g7.cell
            go_wp2_with fail
            refine (TW.out _ k6).mono ?_
            rintro e wa17 ⟨t7, o7, s7, rfl, om, b⟩
            try clear c_g1 f_g1 a_g1 d_g1 e_g1
            replace g1 := g1.below b; have c_g1 := g1.cell; have f_g1 := g1.free; have a_g1 := fun o => (g1.alloc o).cell; have d_g1 := fun o o2 => ((g1.alloc o).alloc o2).cell; have e_g1 := fun o => (g1.alloc o).free; try clear c_g6 f_g6 a_g6 d_g6 e_g6
            replace g6 := g6.below b; have c_g6 := g6.cell; have f_g6 := g6.free; have a_g6 := fun o => (g6.alloc o).cell; have d_g6 := fun o o2 => ((g6.alloc o).alloc o2).cell; have e_g6 := fun o => (g6.alloc o).free; replace B := B.trans (b.mono B.size); clear b
            obtain ⟨⟨t7A, t7n, t7c, rfl⟩, ⟨o7A, o7n, o7c, rfl⟩, _⟩ := om.rd.forms
            obtain ⟨gS, sC, rfl⟩ : ∃ g c, s7 = .slice (some ⟨g, 0, none⟩) 16 c := by have h16 := HL16.out; obtain ⟨g, n, c, e, e2⟩ := om.s.form (by omega); rw [e2, h16] at e; exact ⟨g, c, e⟩
            have hgS := om.s.lt gS rfl
            clear c_g7 g7
            go_upto_region 27 with (fail)
            refine wp_gen (fun Wv => Bx Wv (wa17.heap.size) (26) (#[.slice t7A t7n t7c, .slice o7A o7n o7c, .slice (some ⟨gS, 0, none⟩) 16 sC]) ∧ Below wa17.heap.size wa17 Wv) ⟨((Bx.at_ (by simp))), ((Below.refl _ wa17).alloc (by simp <;> omega) _)⟩ ?_
            rintro wa18 ⟨g8, b⟩
            try clear c_g1 f_g1 a_g1 d_g1 e_g1
            replace g1 := g1.below b; have c_g1 := g1.cell; have f_g1 := g1.free; have a_g1 := fun o => (g1.alloc o).cell; have d_g1 := fun o o2 => ((g1.alloc o).alloc o2).cell; have e_g1 := fun o => (g1.alloc o).free; try clear c_g6 f_g6 a_g6 d_g6 e_g6
            replace g6 := g6.below b; have c_g6 := g6.cell; have f_g6 := g6.free; have a_g6 := fun o => (g6.alloc o).cell; have d_g6 := fun o o2 => ((g6.alloc o).alloc o2).cell; have e_g6 := fun o => (g6.alloc o).free; replace om := om.below b; replace B := B.trans (b.mono B.size); clear b
            have c_g8 := g8.cell; have f_g8 := g8.free; have a_g8 := fun o => (g8.alloc o).cell; have d_g8 := fun o o2 => ((g8.alloc o).alloc o2).cell; have e_g8 := fun o => (g8.alloc o).free
            obtain ⟨ix, p0, p1, p2⟩ := OwnS.cells om.s HY.out
            dsimp only at p0 p1 p2
            have HP := OwnS.putG om.s HY.out g0
            have fz := HP.2.2.2.2
            have hM4 := OwnM.slots om HP.2.1 HP.1
            have hMm : (⟨M3.types, M3.objs, M3.slots.set k ⟨g0, false, 0⟩⟩ : Mo) = m := by rw [HE.out]; dsimp only; rw [HA.out.back]
            dsimp only at hM4
            rw [hMm] at hM4
            have ne1 : gS ≠ w.heap.size := by
              rcases own_not_bx om.s g1 (by decide) with h | h
              · simp [Value.ownBlock] at h
              · intro e; exact h (by simp [Value.ownBlock, e])
            have ne8 : gS ≠ wa17.heap.size := by omega
            have nx := fun {q : Nat} {tq : TypeId} {cs : Array Value} (hb : Bx wa18 q tq cs) (hne : gS ≠ q) => hb.grown HP.2.1 (.inr (fun e => hne (by injection e)))
            have r1 := nx g1 ne1; have r8 := nx g8 ne8
            have hgw : w.heap.size ≤ gS := by have := hgS.1; omega
            have hb8 := B.grown HP.2.1 B.size (fun k hk => by injection hk with hk; rw [← hk]; exact hgw)
            have HH := Lib.hid (And.intro hM4 (And.intro r1 (And.intro r8 hb8)))
            clear nx r1 r8 hb8 hM4 HP
            go_upto_region 28 with (fail)
            refine wp_gen (fun Wv => OwnM Wv w20.heap.size 67 (.slice t7A t7n t7c) (.slice o7A o7n o7c) (.slice (some ⟨gS, 0, none⟩) 16 sC) m ∧ Bx Wv w.heap.size 26 #[.slice tA tn tc, .slice oA on oc, .slice sA sn sc] ∧ Bx Wv wa17.heap.size 26 #[.slice t7A t7n t7c, .slice o7A o7n o7c, .slice (some ⟨gS, 0, none⟩) 16 sC] ∧ Below w.heap.size w Wv) HH.out ?_
            clear HH fz om g1 g6 g8 B ix p0 p1 p2 c_g1 f_g1 a_g1 d_g1 e_g1 c_g6 f_g6 a_g6 d_g6 e_g6 c_g8 f_g8 a_g8 d_g8 e_g8
            rintro w21 ⟨om, g1, g8, B⟩
            have SM := Lib.hid (fun w ha hb => Same20_any (.slice t7A t7n t7c) (.slice o7A o7n o7c) (.slice (some ⟨gS, 0, none⟩) 16 sC) (.slice tA tn tc) (.slice oA on oc) (.slice sA sn sc) m m true (by simp) w ha hb)
            have c_g1 := g1.cell; have c_g8 := g8.cell
            go_wp2_with fail
            refine (SM.out _ om.rd (H.out.below B)).mono ?_
            rintro e wa19 ⟨rfl, b⟩
            try clear c_g1 f_g1 a_g1 d_g1 e_g1
            replace g1 := g1.below b; have c_g1 := g1.cell; have f_g1 := g1.free; have a_g1 := fun o => (g1.alloc o).cell; have d_g1 := fun o o2 => ((g1.alloc o).alloc o2).cell; have e_g1 := fun o => (g1.alloc o).free; replace B := B.trans (b.mono B.size); clear b
            go_wp2
            go_ret
            exact ⟨rfl, B⟩
      · have hne : (r1 != 0) = true := by rw [bne_iff_ne]; exact he
        have hno := allE_no HC.out (by rw [← HR1.out.1]; exact he)
        rw [← HR1.out.1] at hno
        by_cases c1 : ti < 0
        · clear hno
          go_wp2
          go_ret
          exact ⟨rfl, B⟩
        · by_cases c2 : (m.types.length : Int) ≤ ti
          · clear hno
            go_wp2
            go_ret
            exact ⟨rfl, B⟩
          · by_cases c3 : r1 = 23
            · clear hno
              subst c3
              go_wp2
              go_ret
              exact ⟨rfl, B⟩
            · have h4 : r1 = 4 ∧ m.objs.length = 960 := hno.elim (fun h => absurd h c1) fun h => h.elim (fun h => absurd h c2) fun h => h.elim (fun h => absurd h c3) fun h => h
              obtain ⟨c4, c5⟩ := h4
              rw [c5] at lo
              have lo' : ∀ ty W, (Builtin.len_ #[23] ty #[.slice oA on oc]).run Try.prog W = .ok (.int .i64 960) W := lo
              subst c4
              clear hno lo c5
              go_wp2
              go_ret
              exact ⟨rfl, B⟩
end Go.Proofs.Ytgjpohhafmkhcaa
