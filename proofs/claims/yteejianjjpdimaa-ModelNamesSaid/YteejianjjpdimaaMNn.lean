/- Contracts of the functions that the laws 'N' reach, part 14. No condition. -/
import Derived.Test.YteejianjjpdimaaMNm
set_option linter.unusedVariables false
set_option linter.unusedSimpArgs false
namespace Go.Proofs.Yteejianjjpdimaa
open Go.RowKit L02 L13 L18 L20
theorem OwnF.ne_bx {w : World} {base n gf p : Nat} {v : Value} {L : List Ob} {t : TypeId} {cs : Array Value} (h : OwnF w base v L n gf) (ho : n < L.length) (hg : Bx w p t cs) (hne : 46 ≠ t) : gf ≠ p := by
  obtain ⟨vs, nf, cf, h1, h2, h4, h5, h6⟩ := h
  exact own_ne_bx (h4 n _ _ h6 (List.getElem?_eq_getElem ho)) hg hne
theorem rough_chk {m : Mo} (h : chk m = 0) (S : List Sl) : Rough ⟨m.types, m.objs, S⟩ := by
  obtain ⟨h1, h2, h3⟩ := chk_ok h
  refine ⟨by show m.objs.length ≤ 1000; omega, fun o ho => ⟨(h3.2.2.1 o ho).1, (h3.2.2.1 o ho).2.1, ?_⟩⟩
  exact (small_chk h).2.2.2.2 o ho
theorem low_cases (n : Nat) (s : Sl) : (s.used = false ∨ (s.used = true ∧ (s.at_ == (n : Int)) = true ∧ decide ((n : Int) < s.at_) = false) ∨ (s.used = true ∧ (s.at_ == (n : Int)) = false ∧ decide ((n : Int) < s.at_) = false)) ∨ (s.used = true ∧ (s.at_ == (n : Int)) = false ∧ decide ((n : Int) < s.at_) = true) := by
  cases hu : s.used
  · exact .inl (.inl rfl)
  · by_cases h1 : s.at_ = n
    · exact .inl (.inr (.inl ⟨rfl, by rw [beq_iff_eq]; exact h1, by rw [decide_eq_false_iff_not]; omega⟩))
    · by_cases h2 : (n : Int) < s.at_
      · exact .inr ⟨rfl, by rw [beq_eq_false_iff_ne]; exact h1, by rw [decide_eq_true_iff]; exact h2⟩
      · exact .inl (.inr (.inr ⟨rfl, by rw [beq_eq_false_iff_ne]; exact h1, by rw [decide_eq_false_iff_not]; exact h2⟩))
theorem low_same {n : Nat} {s : Sl} (h : s.used = false ∨ decide ((n : Int) < s.at_) = false) : lowS n s = s := by
  rw [lowS]
  split
  · rename_i hu
    rcases h with h | h
    · rw [h] at hu; cases hu
    · rw [decide_eq_false_iff_not] at h
      rw [lowA, if_neg h, ← hu]
  · rfl
theorem low_less {n : Nat} {s : Sl} (hu : s.used = true) (h : decide ((n : Int) < s.at_) = true) : lowS n s = ⟨s.gen, s.used, s.at_ - 1⟩ := by
  rw [lowS, if_pos hu, lowA, if_pos (by rw [decide_eq_true_iff] at h; exact h), hu]
set_option maxRecDepth 100000 in
set_option maxHeartbeats 4000000 in
/-- one reference, while an object is freed -/
theorem free_step {m m2 m' : Mo} {S1 : List Sl} {w wr W : World} {n i n' gf b1 p6 pb z : Nat} {t o s : Value} {r3c r4c : Array Value} {b : Bool} {X : Prop} (hm2 : m2 = ⟨m.types, m.objs, S1.map (lowS n')⟩) (hn : n < m2.objs.length) (hi : i < (ob m2 n).fs.length) (hk3 : ((ty m2.types (ob m2 n)).getD i 0).toNat = 3) (hn1 : n' ≤ 1000) (hz : z ≤ pb)
    (omW : OwnM W b1 48 t o s m') (ofW : OwnF W b1 o m'.objs n gf) (a1 : m' = mapP (lowV n') m2 n i) (a2 : b = true ↔ X ∨ refTo m n' n i) (a3 : Bx W z 26 r3c) (a4 : Bx W p6 26 r4c) (a5 : Bx W (p6 + 1) 3 #[.int .i64 n']) (a6 : Bx W pb 4 #[.bool b]) (a7 : Below w.heap.size w W)
    (hpbw : w.heap.size ≤ pb) (hp7 : p6 + 1 < pb) (hpz : pb < wr.heap.size) (hb1 : w.heap.size ≤ b1) :
    Calls Try.prog 41 (#[] ++ (#[.int .i64 n, .pointer (some ⟨gf, i, none⟩)] ++ #[.pointer (some ⟨pb, 0, none⟩), .pointer (some ⟨p6 + 1, 0, none⟩)])) W fun e W' => e = .returned (.tuple #[]) ∧ ∃ m'', Like m2 m'' ∧ OwnM W' b1 48 t o s m'' ∧ OwnF W' b1 o m''.objs n gf ∧
      (m'' = mapP (lowV n') m2 n (i + 1) ∧ ∃ b : Bool, (b = true ↔ X ∨ refTo m n' n (i + 1)) ∧ Bx W' z 26 r3c ∧ Bx W' p6 26 r4c ∧ Bx W' (p6 + 1) 3 #[.int .i64 n'] ∧ Bx W' pb 4 #[.bool b] ∧ Below w.heap.size w W') ∧ Fr wr.heap.size W W' ∧ KeepB b1 W W' := by
  obtain ⟨o', ho', hfi⟩ := mapP_fld (φ := lowV n') (m := m2) hn hi
  rw [← a1] at ho'
  obtain ⟨mc, mf, gB, gL⟩ := ofW.cell ho' hfi
  have hnl : n < m'.objs.length := (List.getElem?_eq_some_iff.1 ho').1
  have ne1 : gf ≠ pb := ofW.ne_bx hnl a6 (by decide)
  have ne3 : gf ≠ z := ofW.ne_bx hnl a3 (by decide)
  have ne4 : gf ≠ p6 := ofW.ne_bx hnl a4 (by decide)
  have ne5 : gf ≠ p6 + 1 := ofW.ne_bx hnl a5 (by decide)
  have hzp : z ≠ pb := by
    rintro rfl
    have e1 := a3; have e2 := a6
    unfold Bx at e1 e2; rw [e1] at e2; injection e2 with e2; injection e2 with _ e3; exact absurd e3 (by decide)
  refine (Free1_any n n' gf i pb (p6 + 1) ((ob m2 n).fs.getD i 0) b _ rfl hn1 W mc mf a6 a5 ne1 (by omega)).mono ?_
  rintro e w' ⟨rfl, q, hw'⟩
  refine ⟨rfl, ?_⟩
  obtain ⟨b', hb'⟩ : ∃ b', b' = (b || (decide (n ≠ n') && decide (((ob m2 n).fs.getD i 0).toNat = n' + 1))) := ⟨_, rfl⟩
  rw [← hb'] at hw'
  obtain ⟨W1, hW1⟩ : ∃ W1, W1 = ((W.drew).setCell ⟨pb, 0, none⟩ (.bool b')).drewN q := ⟨_, rfl⟩
  rw [← hW1] at hw'
  have hRT : b' = true ↔ X ∨ refTo m n' n (i + 1) := by
    have e0 : refTo m2 n' n (i + 1) ↔ refTo m n' n (i + 1) := by subst hm2; exact Iff.rfl
    have e1 : refTo m2 n' n i ↔ refTo m n' n i := by subst hm2; exact Iff.rfl
    rw [← e0, refTo_step hn hi, e1, ← or_assoc, ← a2, hb', isRef]
    simp only [Bool.or_eq_true, Bool.and_eq_true, decide_eq_true_iff]
    exact or_congr Iff.rfl ⟨fun h => ⟨h.1, hk3, h.2⟩, fun h => ⟨h.1, h.2.2⟩⟩
  have oM1 : OwnM W1 b1 48 t o s m' := by
    rw [hW1]
    exact ⟨OwnT.set (w := W.drew) omW.t a6 (by decide) (by decide), OwnO.set (w := W.drew) omW.o a6 (by decide) (by decide), own_set (w := W.drew) omW.s a6 (by decide)⟩
  have oF1 : OwnF W1 b1 o m'.objs n gf := by rw [hW1]; exact OwnF.set (w := W.drew) ofW a6 (by decide) (by decide)
  have x3 : Bx W1 z 26 r3c := by rw [hW1]; exact Bx.far (w := W.drew) a3 (p := ⟨pb, 0, none⟩) hzp _
  have x4 : Bx W1 p6 26 r4c := by rw [hW1]; exact Bx.far (w := W.drew) a4 (p := ⟨pb, 0, none⟩) (by show _ ≠ pb; omega) _
  have x5 : Bx W1 (p6 + 1) 3 #[.int .i64 n'] := by rw [hW1]; exact Bx.far (w := W.drew) a5 (p := ⟨pb, 0, none⟩) (by show _ ≠ pb; omega) _
  have x9 : Bx W1 pb 4 #[.bool b'] := by
    rw [hW1]
    have k : Bx (W.drew.setCell ⟨pb, 0, none⟩ (.bool b')) pb 4 #[.bool b'] := by
      have := Bx.set (w := W.drew) (i := 0) a6 (.bool b')
      simpa using this
    exact k
  have xB : Below w.heap.size w W1 := by rw [hW1]; exact (below_drewN (((a7.drew).setCell (p := ⟨pb, 0, none⟩) hpbw _)) q)
  have hs1 : W1.heap.size = W.heap.size := by rw [hW1]; show (W.setCell ⟨pb, 0, none⟩ (.bool b')).heap.size = _; simp [World.setCell]
  have fr1 : Fr wr.heap.size W W1 := ⟨by rw [hs1]; exact Nat.le_refl _, fun g t' cs hg _ hx => by rw [hW1]; exact Bx.far (w := W.drew) hx (p := ⟨pb, 0, none⟩) (by show _ ≠ pb; omega) _⟩
  have kb1 : KeepB b1 W W1 := fun v l hv => by rw [hW1]; exact own_set (w := W.drew) hv a6 (by decide)
  have hlv : lowV n' ((ty m2.types (ob m2 n)).getD i 0) ((ob m2 n).fs.getD i 0) = if n' + 1 < ((ob m2 n).fs.getD i 0).toNat then (ob m2 n).fs.getD i 0 - 1 else (ob m2 n).fs.getD i 0 := by
    rw [lowV]
    by_cases h : n' + 1 < ((ob m2 n).fs.getD i 0).toNat
    · rw [if_pos ⟨hk3, h⟩, if_pos h]
    · rw [if_neg (fun hh => h hh.2), if_neg h]
  by_cases hlt : n' + 1 < ((ob m2 n).fs.getD i 0).toNat
  · rw [if_pos hlt] at hw' hlv
    have e1 : (((ob m2 n).fs.getD i 0) - 1).toNat = ((ob m2 n).fs.getD i 0).toNat - 1 := by
      have hone : (1 : UInt64) ≤ (ob m2 n).fs.getD i 0 := by rw [UInt64.le_iff_toNat_le]; show 1 ≤ _; omega
      rw [UInt64.toNat_sub_of_le _ _ hone]; rfl
    have hst := OwnM.storeF oM1 oF1 ho' hfi ((ob m2 n).fs.getD i 0 - 1)
    have hmp : putF m' n i ((ob m2 n).fs.getD i 0 - 1) = mapP (lowV n') m2 n (i + 1) := by rw [a1, ← hlv]; exact mapP_step hn hi
    rw [e1, ← hw', hmp] at hst
    obtain ⟨k1, k2, k3⟩ := hst
    have far : ∀ {g t' cs}, gf ≠ g → Bx W1 g t' cs → Bx w' g t' cs := fun hne hx => hx.grown k3 (.inr (fun e => hne (by injection e)))
    refine ⟨_, mapP_like, k1, k2, ⟨rfl, b', hRT, far ne3 x3, far ne4 x4, far ne5 x5, far ne1 x9, xB.grown k3 (by have := a7.size; have := hs1; omega) (fun k hk => by injection hk with hk; omega)⟩, ⟨by rw [← hs1]; exact k3.size, fun g t' cs hg hne hx => ?_⟩, fun v l hv => ?_⟩
    · have := fr1.2 g t' cs hg hne hx
      exact far (ofW.ne_bx hnl hx (Ne.symm hne)) this
    · obtain ⟨vs, nf, cf, h1, h2, h4, h5, h6⟩ := oF1
      exact World.ownsRow.kept (kb1 v l hv) k3 (own_unlike (kb1 v l hv) (h4 n _ _ h6 (List.getElem?_eq_getElem hnl)) (by decide))
  · rw [if_neg hlt] at hw' hlv
    have hmp : m' = mapP (lowV n') m2 n (i + 1) := by rw [a1]; exact (mapP_skip hlv).symm
    subst hw'
    exact ⟨m', by rw [hmp]; exact mapP_like, oM1, oF1, ⟨hmp, b', hRT, x3, x4, x5, x9, xB⟩, fr1, kb1⟩
/-- freeing where the model or the handle is not right -/
theorem Free20_no (tv ov sv : Value) (m : Mo) (sl g : Int) (r : Int) (hr : r = asked m sl g) (ha : ¬ asked m sl g = 0) (w : World) (h : Mod w tv ov sv m) :
    Calls Try.prog 22 #[.agg #[tv, ov, sv], .agg #[.int .i64 sl, .int .i64 g]] w fun e w' => ∃ t' o' s', e = .returned (.tuple #[.agg #[t', o', s'], .int .i64 r]) ∧ OwnM w' w.heap.size 48 t' o' s' .nil ∧ Below w.heap.size w w' := by
  have B : Below w.heap.size w w := Below.refl _ _
  have H := Lib.hid h
  have OT := Lib.hid (fun w h => open20_no tv ov sv m sl g r hr (by rw [hr]; exact ha) w h)
  have hne : (r != 0) = true := by rw [bne_iff_ne, hr]; exact ha
  clear hr ha h
  go_enter Try.func22, Try.ntmps22
  go_upto_region 1 with (fail)
  refine wp_gen (fun Wv => Bx Wv (w.heap.size) (26) (#[tv, ov, sv]) ∧ Bx Wv (w.heap.size + 1) (50) (#[.int .i64 sl, .int .i64 g]) ∧ Bx Wv (w.heap.size + 1 + 1) (26) (#[.slice none 0 0, .slice none 0 0, .slice none 0 0]) ∧ Below w.heap.size w Wv) ⟨((((Bx.at_ (by simp)).alloc _).alloc _)), (((Bx.at_ (by simp)).alloc _)), ((Bx.at_ (by simp))), ((((Below.refl _ w).alloc (by simp <;> omega) _).alloc (by simp <;> omega) _).alloc (by simp <;> omega) _)⟩ ?_
  rintro wa1 ⟨g1, g2, g3, b⟩
  replace B := B.trans (b.mono B.size); clear b
  have c_g1 := g1.cell; have f_g1 := g1.free; have a_g1 := fun o => (g1.alloc o).cell; have d_g1 := fun o o2 => ((g1.alloc o).alloc o2).cell; have e_g1 := fun o => (g1.alloc o).free
  have c_g2 := g2.cell; have f_g2 := g2.free; have a_g2 := fun o => (g2.alloc o).cell; have d_g2 := fun o o2 => ((g2.alloc o).alloc o2).cell; have e_g2 := fun o => (g2.alloc o).free
  have c_g3 := g3.cell; have f_g3 := g3.free; have a_g3 := fun o => (g3.alloc o).cell; have d_g3 := fun o o2 => ((g3.alloc o).alloc o2).cell; have e_g3 := fun o => (g3.alloc o).free
  go_wp2_with fail
  refine (OT.out _ (H.out.below B)).mono ?_
  rintro e wa2 ⟨rfl, b⟩
  try clear c_g1 f_g1 a_g1 d_g1 e_g1
  replace g1 := g1.below b; have c_g1 := g1.cell; have f_g1 := g1.free; have a_g1 := fun o => (g1.alloc o).cell; have d_g1 := fun o o2 => ((g1.alloc o).alloc o2).cell; have e_g1 := fun o => (g1.alloc o).free; try clear c_g2 f_g2 a_g2 d_g2 e_g2
  replace g2 := g2.below b; have c_g2 := g2.cell; have f_g2 := g2.free; have a_g2 := fun o => (g2.alloc o).cell; have d_g2 := fun o o2 => ((g2.alloc o).alloc o2).cell; have e_g2 := fun o => (g2.alloc o).free; try clear c_g3 f_g3 a_g3 d_g3 e_g3
  replace g3 := g3.below b; have c_g3 := g3.cell; have f_g3 := g3.free; have a_g3 := fun o => (g3.alloc o).cell; have d_g3 := fun o o2 => ((g3.alloc o).alloc o2).cell; have e_g3 := fun o => (g3.alloc o).free; replace B := B.trans (b.mono B.size); clear b
  go_upto_region 2 with (fail)
  refine wp_gen (fun Wv => Bx Wv (wa2.heap.size) (26) (#[.slice none 0 0, .slice none 0 0, .slice none 0 0]) ∧ Below wa2.heap.size wa2 Wv) ⟨(((Bx.at_ (by simp)).alloc _)), (((Below.refl _ wa2).alloc (by simp <;> omega) _).alloc (by simp <;> omega) _)⟩ ?_
  rintro wa3 ⟨g4, b⟩
  try clear c_g1 f_g1 a_g1 d_g1 e_g1
  replace g1 := g1.below b; have c_g1 := g1.cell; have f_g1 := g1.free; have a_g1 := fun o => (g1.alloc o).cell; have d_g1 := fun o o2 => ((g1.alloc o).alloc o2).cell; have e_g1 := fun o => (g1.alloc o).free; try clear c_g2 f_g2 a_g2 d_g2 e_g2
  replace g2 := g2.below b; have c_g2 := g2.cell; have f_g2 := g2.free; have a_g2 := fun o => (g2.alloc o).cell; have d_g2 := fun o o2 => ((g2.alloc o).alloc o2).cell; have e_g2 := fun o => (g2.alloc o).free; try clear c_g3 f_g3 a_g3 d_g3 e_g3
  replace g3 := g3.below b; have c_g3 := g3.cell; have f_g3 := g3.free; have a_g3 := fun o => (g3.alloc o).cell; have d_g3 := fun o o2 => ((g3.alloc o).alloc o2).cell; have e_g3 := fun o => (g3.alloc o).free; replace B := B.trans (b.mono B.size); clear b
  have c_g4 := g4.cell; have f_g4 := g4.free; have a_g4 := fun o => (g4.alloc o).cell; have d_g4 := fun o o2 => ((g4.alloc o).alloc o2).cell; have e_g4 := fun o => (g4.alloc o).free
  go_wp2
  refine bodyPost_ret (v := .tuple #[.agg #[.slice none 0 0, .slice none 0 0, .slice none 0 0], .int .i64 r]) (by simp [results, Try.results22, go_sem, c_g3, f_g3]) rfl ?_
  refine ⟨_, _, _, rfl, OwnM.nil _ _, ?_⟩
  (repeat (first | refine Below.setCell ?_ (by first | exact Nat.le_refl _ | (simp <;> omega)) _ | refine Below.alloc ?_ (by first | exact B.size | (have := B.size; simp <;> omega)) _)); exact B
set_option maxRecDepth 100000 in
set_option maxHeartbeats 8000000 in
theorem Free20_own (tv ov sv : Value) (m : Mo) (sl g : Int) (M : Mo) (r : Int) (hM : M = freeM m sl g) (hr : r = freeE m sl g) (w : World) (h : Mod w tv ov sv m) :
    Calls Try.prog 22 #[.agg #[tv, ov, sv], .agg #[.int .i64 sl, .int .i64 g]] w fun e w' => ∃ t' o' s', e = .returned (.tuple #[.agg #[t', o', s'], .int .i64 r]) ∧ OwnM w' w.heap.size 48 t' o' s' M ∧ Below w.heap.size w w' := by
  by_cases ha : asked m sl g = 0
  · have B : Below w.heap.size w w := Below.refl _ _
    have H := Lib.hid h
    obtain ⟨c0, hr0, k, s, n', o, t, hk, hk16, hs, hu, hg, hso, hat, hown, hob1, _⟩ := asked_ok ha
    have OT := Lib.hid (fun w h => open20_ok tv ov sv m sl g n' ha hown w h)
    obtain ⟨_, hobjs, h16, _⟩ := chk_ok c0
    have hn' : n' < m.objs.length := (List.getElem?_eq_some_iff.1 hob1).1
    have hBU := fun n => busy_iff (m := m) (k := k) (g := g) (by rw [h16]; exact hk16) n
    subst hk
    have hM1 : M = if Busy m (k : Int) n' then .nil else ⟨m.types, (m.objs.map (lowO m n')).eraseIdx n', (m.slots.set k ⟨g, false, 0⟩).map (lowS n')⟩ := by
      rw [hM, freeM, freeE, if_pos ha, hown]
      by_cases hb : Busy m (k : Int) n'
      · rw [if_pos hb, if_pos hb]; rfl
      · rw [if_neg hb, if_neg hb]; rfl
    have hr1 : r = if Busy m (k : Int) n' then 45 else 0 := by rw [hr, freeE, if_pos ha, hown]
    have HM := Lib.hid hM1; have HRR := Lib.hid hr1; have HBU := Lib.hid (hBU n')
    have HS := Lib.hid hs; have H16 := Lib.hid h16; have HOB := Lib.hid hobjs; have HN := Lib.hid hn'; have HRO := Lib.hid (rough_chk c0)
    obtain ⟨S1, hS1⟩ : ∃ S, S = m.slots.set k ⟨g, false, 0⟩ := ⟨_, rfl⟩
    have HS1 := Lib.hid hS1
    have H1L := Lib.hid (show S1.length = 16 by rw [hS1, List.length_set]; exact h16)
    have H1B := Lib.hid (show ∀ s ∈ S1, s.used = true → 0 ≤ s.at_ ∧ s.at_ ≤ 1000 from by
      intro s2 hs2 hu2
      rw [hS1] at hs2
      rcases List.mem_or_eq_of_mem_set hs2 with h | h
      · have := ((chk_ok c0).2.2.2.2.2 s2 h).2.2 hu2; omega
      · rw [h] at hu2; cases hu2)
    clear hr hM ha c0 hr0 hu hso hat hown h hs h16 hM1 hr1 hBU hS1 hobjs hob1
    have hn1 : n' ≤ 1000 := by have := HN.out; have := HOB.out; omega
    clear hn'
    go_enter Try.func22, Try.ntmps22
    go_upto_region 1 with (fail)
    refine wp_gen (fun Wv => Bx Wv (w.heap.size) (26) (#[tv, ov, sv]) ∧ Bx Wv (w.heap.size + 1) (50) (#[.int .i64 k, .int .i64 g]) ∧ Bx Wv (w.heap.size + 1 + 1) (26) (#[.slice none 0 0, .slice none 0 0, .slice none 0 0]) ∧ Below w.heap.size w Wv) ⟨((((Bx.at_ (by simp)).alloc _).alloc _)), (((Bx.at_ (by simp)).alloc _)), ((Bx.at_ (by simp))), ((((Below.refl _ w).alloc (by simp <;> omega) _).alloc (by simp <;> omega) _).alloc (by simp <;> omega) _)⟩ ?_
    rintro wa1 ⟨g1, g2, g3, b⟩
    replace B := B.trans (b.mono B.size); clear b
    have c_g1 := g1.cell; have f_g1 := g1.free; have a_g1 := fun o => (g1.alloc o).cell; have d_g1 := fun o o2 => ((g1.alloc o).alloc o2).cell; have e_g1 := fun o => (g1.alloc o).free
    have c_g2 := g2.cell; have f_g2 := g2.free; have a_g2 := fun o => (g2.alloc o).cell; have d_g2 := fun o o2 => ((g2.alloc o).alloc o2).cell; have e_g2 := fun o => (g2.alloc o).free
    have c_g3 := g3.cell; have f_g3 := g3.free; have a_g3 := fun o => (g3.alloc o).cell; have d_g3 := fun o o2 => ((g3.alloc o).alloc o2).cell; have e_g3 := fun o => (g3.alloc o).free
    have hz1 := B.size; have hp1 := g3.lt
    go_wp2_with fail
    refine (OT.out _ (H.out.below B)).mono ?_
    rintro e wa2 ⟨t', o', s', rfl, om, b⟩
    try clear c_g1 f_g1 a_g1 d_g1 e_g1
    replace g1 := g1.below b; have c_g1 := g1.cell; have f_g1 := g1.free; have a_g1 := fun o => (g1.alloc o).cell; have d_g1 := fun o o2 => ((g1.alloc o).alloc o2).cell; have e_g1 := fun o => (g1.alloc o).free; try clear c_g2 f_g2 a_g2 d_g2 e_g2
    replace g2 := g2.below b; have c_g2 := g2.cell; have f_g2 := g2.free; have a_g2 := fun o => (g2.alloc o).cell; have d_g2 := fun o o2 => ((g2.alloc o).alloc o2).cell; have e_g2 := fun o => (g2.alloc o).free; try clear c_g3 f_g3 a_g3 d_g3 e_g3
    replace g3 := g3.below b; have c_g3 := g3.cell; have f_g3 := g3.free; have a_g3 := fun o => (g3.alloc o).cell; have d_g3 := fun o o2 => ((g3.alloc o).alloc o2).cell; have e_g3 := fun o => (g3.alloc o).free; replace B := B.trans (b.mono B.size); clear b
    obtain ⟨⟨tA, tn, tc, rfl⟩, ⟨oA, on, oc, rfl⟩, _⟩ := om.forms
    obtain ⟨gS, sc, rfl⟩ : ∃ g c, s' = .slice (some ⟨g, 0, none⟩) 16 c := by obtain ⟨g, n, c, e, e2⟩ := om.s.form (by have := H16.out; omega); rw [e2, H16.out] at e; exact ⟨g, c, e⟩
    have hgS := om.s.lt gS rfl; have hz_ := (om.s.lt gS rfl).1
    go_upto_region 2 with (fail)
    refine wp_gen (fun Wv => Bx Wv (wa2.heap.size) (26) (#[.slice tA tn tc, .slice oA on oc, .slice (some ⟨gS, 0, none⟩) 16 sc]) ∧ Bx Wv (wa2.heap.size + 1) (3) (#[.int .i64 n']) ∧ Below wa2.heap.size wa2 Wv) ⟨(((Bx.at_ (by simp)).alloc _)), ((Bx.at_ (by simp))), (((Below.refl _ wa2).alloc (by simp <;> omega) _).alloc (by simp <;> omega) _)⟩ ?_
    rintro wa3 ⟨g4, g5, b⟩
    try clear c_g1 f_g1 a_g1 d_g1 e_g1
    replace g1 := g1.below b; have c_g1 := g1.cell; have f_g1 := g1.free; have a_g1 := fun o => (g1.alloc o).cell; have d_g1 := fun o o2 => ((g1.alloc o).alloc o2).cell; have e_g1 := fun o => (g1.alloc o).free; try clear c_g2 f_g2 a_g2 d_g2 e_g2
    replace g2 := g2.below b; have c_g2 := g2.cell; have f_g2 := g2.free; have a_g2 := fun o => (g2.alloc o).cell; have d_g2 := fun o o2 => ((g2.alloc o).alloc o2).cell; have e_g2 := fun o => (g2.alloc o).free; try clear c_g3 f_g3 a_g3 d_g3 e_g3
    replace g3 := g3.below b; have c_g3 := g3.cell; have f_g3 := g3.free; have a_g3 := fun o => (g3.alloc o).cell; have d_g3 := fun o o2 => ((g3.alloc o).alloc o2).cell; have e_g3 := fun o => (g3.alloc o).free; replace om := om.below b; replace B := B.trans (b.mono B.size); clear b
    have c_g4 := g4.cell; have f_g4 := g4.free; have a_g4 := fun o => (g4.alloc o).cell; have d_g4 := fun o o2 => ((g4.alloc o).alloc o2).cell; have e_g4 := fun o => (g4.alloc o).free
    have c_g5 := g5.cell; have f_g5 := g5.free; have a_g5 := fun o => (g5.alloc o).cell; have d_g5 := fun o o2 => ((g5.alloc o).alloc o2).cell; have e_g5 := fun o => (g5.alloc o).free
    have HP := Lib.hid (OwnS.put3 (k := k) om.s (by have := H16.out; omega) ⟨g, false, 0⟩)
    obtain ⟨ix, p0, p1, p2⟩ := OwnS.cells om.s HS.out
    have fz := HP.out.2.2.2.2
    have hM3 := OwnM.slots om HP.out.2.1 HP.out.1
    have nx := fun {q : Nat} {tq : TypeId} {cs : Array Value} (hb : Bx wa3 q tq cs) (hne : gS ≠ q) => hb.grown HP.out.2.1 (.inr (fun e => hne (by injection e)))
    have r3 := nx g3 (by omega); have r4 := nx g4 (by omega); have r5 := nx g5 (by omega)
    have hb3 := B.grown HP.out.2.1 B.size (fun k hk => by injection hk with hk; rw [← hk]; have := HP.out.2.2.1; omega)
    rw [← HS1.out] at hM3
    have HH := Lib.hid (And.intro hM3 (And.intro r3 (And.intro r4 (And.intro r5 hb3))))
    clear nx r3 r4 r5 hb3 hM3
    go_upto_region 5 with (fail)
    generalize hp6 : wa2.heap.size = p6 at *
    refine wp_gen (fun Wv => OwnM Wv wa1.heap.size 48 (.slice tA tn tc) (.slice oA on oc) (.slice (some ⟨gS, 0, none⟩) 16 sc) ⟨m.types, m.objs, S1⟩ ∧ Bx Wv (w.heap.size + 1 + 1) 26 #[.slice none 0 0, .slice none 0 0, .slice none 0 0] ∧ Bx Wv p6 26 #[.slice tA tn tc, .slice oA on oc, .slice (some ⟨gS, 0, none⟩) 16 sc] ∧ Bx Wv (p6 + 1) 3 #[.int .i64 n'] ∧ Below w.heap.size w Wv) HH.out ?_
    rintro wz ⟨om2, r3, r4, r5, B2⟩
    obtain ⟨b1, hb1⟩ : ∃ b, b = wa1.heap.size := ⟨_, rfl⟩
    rw [← hb1] at om2
    have hb13 : w.heap.size + 1 + 1 < b1 := by omega
    have hb16 : b1 ≤ p6 := by omega
    have hg6 : gS < p6 := by omega
    clear HH om g1 g2 g3 g4 g5 B p0 p1 p2 fz ix HP c_g1 f_g1 a_g1 d_g1 e_g1 c_g2 f_g2 a_g2 d_g2 e_g2 c_g3 f_g3 a_g3 d_g3 e_g3 c_g4 f_g4 a_g4 d_g4 e_g4 c_g5 f_g5 a_g5 d_g5 e_g5 hb1 hp6 hz1 hp1 hgS hz_
    have hp7 := r5.lt
    have bz := (Below.refl wz.heap.size wz).alloc (Nat.le_refl _) (.cells #[.bool false] 4)
    have HZ := Lib.hid (And.intro (OwnM.below om2 bz) (And.intro (r3.below bz) (And.intro (r4.below bz) (And.intro (r5.below bz) (And.intro (Bx.new wz 4 #[.bool false]) (And.intro (B2.trans (bz.mono B2.size)) (show wz.heap.size < (wz.alloc (.cells #[.bool false] 4)).heap.size by simp)))))))
    clear om2 r3 r4 r5 B2 bz
    go_upto_region 6 with (fail)
    generalize hpb : wz.heap.size = pb at *
    refine wp_gen (fun Wv => OwnM Wv b1 48 (.slice tA tn tc) (.slice oA on oc) (.slice (some ⟨gS, 0, none⟩) 16 sc) ⟨m.types, m.objs, S1⟩ ∧ Bx Wv (w.heap.size + 1 + 1) 26 #[.slice none 0 0, .slice none 0 0, .slice none 0 0] ∧ Bx Wv p6 26 #[.slice tA tn tc, .slice oA on oc, .slice (some ⟨gS, 0, none⟩) 16 sc] ∧ Bx Wv (p6 + 1) 3 #[.int .i64 n'] ∧ Bx Wv pb 4 #[.bool false] ∧ Below w.heap.size w Wv ∧ pb < Wv.heap.size) ?_ ?_
    · exact HZ.out
    clear hpb
    rintro wy hy
    have HY := Lib.hid hy
    have c4 := hy.2.2.1.cell
    clear HZ hy
    go_wp2
    clear c4
    go_loopg [34] 16 (fun g i wr => ∃ j : Nat, j ≤ 16 ∧ g = 16 - j ∧ i = .int .i64 j ∧ Hid (∃ bb : Bool, (bb = true ↔ sloTo S1 n' j) ∧ OwnM wr b1 48 (.slice tA tn tc) (.slice oA on oc) (.slice (some ⟨gS, 0, none⟩) 16 sc) ⟨m.types, m.objs, mapT (lowS n') S1 j⟩ ∧ Bx wr (w.heap.size + 1 + 1) 26 #[.slice none 0 0, .slice none 0 0, .slice none 0 0] ∧ Bx wr p6 26 #[.slice tA tn tc, .slice oA on oc, .slice (some ⟨gS, 0, none⟩) 16 sc] ∧ Bx wr (p6 + 1) 3 #[.int .i64 n'] ∧ Bx wr pb 4 #[.bool bb] ∧ Below w.heap.size w wr ∧ pb < wr.heap.size))
    case atStart => exact ⟨0, by omega, by omega, rfl, Lib.hid ⟨false, ⟨fun h => by (cases h), fun h => absurd h sloTo_zero⟩, by rw [mapT_zero]; exact HY.out⟩⟩
    case round =>
      clear HY
      obtain ⟨j, hj, rfl, rfl, hh⟩ := hrel
      obtain ⟨bb, hbb, om, r3, r4, r5, r9, B, hpz⟩ := hh.out
      by_cases hlt : j < 16
      · obtain ⟨s1, hs1⟩ : ∃ s, S1[j]? = some s := ⟨_, List.getElem?_eq_getElem (by rw [H1L.out]; exact hlt)⟩
        have hbs := H1B.out s1 (List.mem_of_getElem? hs1)
        have hs2 := mapT_get (f := lowS n') hs1
        obtain ⟨ix, q0, q1, q2⟩ := OwnS.cells om.s hs2
        have HSL := Lib.hid hs1
        obtain ⟨b0, hb0⟩ : ∃ b, b = bb := ⟨_, rfl⟩
        have HB1 := Lib.hid (fun (b' : Bool) (e : b' = (b0 || (s1.used && (s1.at_ == (n' : Int))))) => show b' = true ↔ sloTo S1 n' (j + 1) from by
          rw [sloTo_step hs1, e, hb0, ← hbb]; simp [Bool.or_eq_true, Bool.and_eq_true])
        have HX := Lib.hid (And.intro om (And.intro r3 (And.intro r4 (And.intro r5 (And.intro r9 (And.intro B hpz))))))
        obtain ⟨wn, hwn⟩ : ∃ W, W = wr := ⟨_, rfl⟩
        subst hwn
        clear hh om r3 r4 r5 r9 B hbb hs1
        go_upto_region 9 with (fail)
        refine wp_gen (fun Wv => Bx Wv wn.heap.size 48 #[.int .i64 s1.gen, .bool s1.used, .int .i64 s1.at_] ∧ Below wn.heap.size wn Wv) ?_ ?_
        · exact ⟨Bx.new wn _ _, (Below.refl _ wn).alloc (Nat.le_refl _) _⟩
        rintro wx ⟨g11, b⟩
        generalize hp11 : wn.heap.size = p11 at *
        have hp11b : pb < p11 := by have := HX.out.2.2.2.2.2.2; omega
        have SX : ∀ x : Bool, OwnM (wx.setCell ⟨pb, 0, none⟩ (.bool x)) b1 48 (.slice tA tn tc) (.slice oA on oc) (.slice (some ⟨gS, 0, none⟩) 16 sc) ⟨m.types, m.objs, mapT (lowS n') S1 j⟩ ∧ Bx (wx.setCell ⟨pb, 0, none⟩ (.bool x)) (w.heap.size + 1 + 1) 26 #[.slice none 0 0, .slice none 0 0, .slice none 0 0] ∧ Bx (wx.setCell ⟨pb, 0, none⟩ (.bool x)) p6 26 #[.slice tA tn tc, .slice oA on oc, .slice (some ⟨gS, 0, none⟩) 16 sc] ∧ Bx (wx.setCell ⟨pb, 0, none⟩ (.bool x)) (p6 + 1) 3 #[.int .i64 n'] ∧ Bx (wx.setCell ⟨pb, 0, none⟩ (.bool x)) pb 4 #[.bool x] ∧ Bx (wx.setCell ⟨pb, 0, none⟩ (.bool x)) p11 48 #[.int .i64 s1.gen, .bool s1.used, .int .i64 s1.at_] ∧ Below w.heap.size w (wx.setCell ⟨pb, 0, none⟩ (.bool x)) ∧ pb < (wx.setCell ⟨pb, 0, none⟩ (.bool x)).heap.size := fun x => by
          subst hp11
          obtain ⟨om, r3, r4, r5, r9, B, hpz⟩ := HX.out
          have om2 := om.below b
          have r92 := r9.below b
          refine ⟨⟨om2.t.set r92 (by decide) (by decide), om2.o.set r92 (by decide) (by decide), own_set om2.s r92 (by decide)⟩, (r3.below b).far (p := ⟨pb, 0, none⟩) (by show _ ≠ pb; omega) _, (r4.below b).far (p := ⟨pb, 0, none⟩) (by show _ ≠ pb; omega) _, (r5.below b).far (p := ⟨pb, 0, none⟩) (by show _ ≠ pb; omega) _, ?_, g11.far (p := ⟨pb, 0, none⟩) (by show _ ≠ pb; omega) _, (B.trans (b.mono B.size)).setCell (p := ⟨pb, 0, none⟩) (by show _ ≤ pb; omega) _, ?_⟩
          · have := r92.set (i := 0) (.bool x); simpa using this
          · have := b.size; simp [World.setCell]; omega
        have c9 := (HX.out.2.2.2.2.1.below (hp11 ▸ b)).cell
        have f9 := (HX.out.2.2.2.2.1.below (hp11 ▸ b)).free
        have c5 := (HX.out.2.2.2.1.below (hp11 ▸ b)).cell
        have c11 := g11.cell
        have SX := Lib.hid SX
        clear g11 b hp11 HX ix q0 q1 q2
        have hlc := low_cases n' s1
        rcases hlc with hlc | ⟨hu, e1, e2⟩
        · have HE := Lib.hid (mapT_same HSL.out (low_same (by rcases hlc with h | h | h; exact .inl h; exact .inr h.2.2; exact .inr h.2.2)))
          rcases bb with _ | _
          all_goals
            rcases hlc with hu | ⟨hu, e1, e2⟩ | ⟨hu, e1, e2⟩
            all_goals
              rw [hu] at c11
              go_upto_region 10 with (fail)
              refine wp_gen (fun Wv => ∃ x : Bool, x = (b0 || (s1.used && (s1.at_ == (n' : Int)))) ∧ OwnM Wv b1 48 (.slice tA tn tc) (.slice oA on oc) (.slice (some ⟨gS, 0, none⟩) 16 sc) ⟨m.types, m.objs, mapT (lowS n') S1 j⟩ ∧ Bx Wv (w.heap.size + 1 + 1) 26 #[.slice none 0 0, .slice none 0 0, .slice none 0 0] ∧ Bx Wv p6 26 #[.slice tA tn tc, .slice oA on oc, .slice (some ⟨gS, 0, none⟩) 16 sc] ∧ Bx Wv (p6 + 1) 3 #[.int .i64 n'] ∧ Bx Wv pb 4 #[.bool x] ∧ Bx Wv p11 48 #[.int .i64 s1.gen, .bool s1.used, .int .i64 s1.at_] ∧ Below w.heap.size w Wv ∧ pb < Wv.heap.size) ⟨_, by first | (rw [hb0, hu, e1]; rfl) | (rw [hb0, hu]; rfl), SX.out _⟩ ?_
              rintro wq ⟨x, hx, om, r3, r4, r5, r9, r11, B, hpz⟩
              have HF := Lib.hid (And.intro (HB1.out x hx) (And.intro om (And.intro r3 (And.intro r4 (And.intro r5 (And.intro r9 (And.intro B hpz)))))))
              clear c9 f9 c5 c11 hx om r3 r4 r9 B
              have c5 := r5.cell
              have c11 := r11.cell
              rw [hu] at c11
              clear r5 r11
              go_wp2
              clear c5 c11
              go_roundg (16 - (j + 1))
              case measure => omega
              case rel =>
                refine ⟨j + 1, by omega, rfl, by go_num, Lib.hid ⟨x, ?_⟩⟩
                rw [HE.out]; exact HF.out
        · have HE := Lib.hid (mapT_set (f := lowS n') HSL.out)
          have HLS := Lib.hid (low_less hu e2)
          have hbd := hbs hu
          have hwr : IntKind.i64.wrap (s1.at_ - 1) = s1.at_ - 1 := IntWalk.i64_in _ (by omega)
          rcases bb with _ | _
          all_goals
            rw [hu] at c11
            go_upto_region 10 with (fail)
            refine wp_gen (fun Wv => ∃ x : Bool, x = (b0 || (s1.used && (s1.at_ == (n' : Int)))) ∧ OwnM Wv b1 48 (.slice tA tn tc) (.slice oA on oc) (.slice (some ⟨gS, 0, none⟩) 16 sc) ⟨m.types, m.objs, mapT (lowS n') S1 j⟩ ∧ Bx Wv (w.heap.size + 1 + 1) 26 #[.slice none 0 0, .slice none 0 0, .slice none 0 0] ∧ Bx Wv p6 26 #[.slice tA tn tc, .slice oA on oc, .slice (some ⟨gS, 0, none⟩) 16 sc] ∧ Bx Wv (p6 + 1) 3 #[.int .i64 n'] ∧ Bx Wv pb 4 #[.bool x] ∧ Bx Wv p11 48 #[.int .i64 s1.gen, .bool s1.used, .int .i64 s1.at_] ∧ Below w.heap.size w Wv ∧ pb < Wv.heap.size) ⟨_, by first | (rw [hb0, hu, e1]; rfl) | (rw [hb0, hu]; rfl), SX.out _⟩ ?_
            rintro wq ⟨x, hx, om, r3, r4, r5, r9, r11, B, hpz⟩
            have HF := Lib.hid (HB1.out x hx)
            clear c9 f9 c5 c11 hx
            have c4 := r4.cell; have c5 := r5.cell
            have c11 := r11.cell
            rw [hu] at c11
            obtain ⟨ix, q0, q1, q2⟩ := OwnS.cells om.s hs2
            have HP := Lib.hid (OwnS.put1 om.s hs2 (s1.at_ - 1))
            have fz := HP.out.2.2.2.2
            have hM3 := OwnM.slots om HP.out.2.1 HP.out.1
            have nx := fun {q : Nat} {tq : TypeId} {cs : Array Value} (hb : Bx wq q tq cs) (hne : gS ≠ q) => hb.grown HP.out.2.1 (.inr (fun e => hne (by injection e)))
            have y3 := nx r3 (own_ne_bx om.s r3 (by decide)); have y4 := nx r4 (own_ne_bx om.s r4 (by decide)); have y5 := nx r5 (own_ne_bx om.s r5 (by decide)); have y9 := nx r9 (own_ne_bx om.s r9 (by decide))
            have hb3 := B.grown HP.out.2.1 B.size (fun k hk => by injection hk with hk; rw [← hk]; have := HP.out.2.2.1; omega)
            have HH := Lib.hid (And.intro hM3 (And.intro y3 (And.intro y4 (And.intro y5 (And.intro y9 (And.intro hb3 (Nat.lt_of_lt_of_le hpz HP.out.2.1.size)))))))
            clear nx y3 y4 y5 y9 hb3 hM3 om r3 r4 r5 r9 r11 B q0 q1
            go_wp2
            clear c4 c5 c11 ix q2 fz
            go_roundg (16 - (j + 1))
            case measure => omega
            case rel =>
              refine ⟨j + 1, by omega, rfl, by go_num, Lib.hid ⟨x, HF.out, ?_⟩⟩
              rw [← HE.out, HLS.out]; exact HH.out
      · obtain rfl : j = 16 := by omega
        rw [mapT_done (by rw [H1L.out]; omega)] at om
        obtain ⟨m2, hm2⟩ : ∃ m2 : Mo, m2 = ⟨m.types, m.objs, S1.map (lowS n')⟩ := ⟨_, rfl⟩
        rw [← hm2] at om
        have hb1r : b1 ≤ wr.heap.size := by have := r4.lt; omega
        obtain ⟨J, hJ⟩ : ∃ J : Nat → Nat → Mo → World → Prop, J = fun n i m' W => m' = mapP (lowV n') m2 n i ∧ ∃ b : Bool, (b = true ↔ sloTo S1 n' 16 ∨ refTo m n' n i) ∧ Bx W (w.heap.size + 1 + 1) 26 #[.slice none 0 0, .slice none 0 0, .slice none 0 0] ∧ Bx W p6 26 #[.slice tA tn tc, .slice oA on oc, .slice (some ⟨gS, 0, none⟩) 16 sc] ∧ Bx W (p6 + 1) 3 #[.int .i64 n'] ∧ Bx W pb 4 #[.bool b] ∧ Below w.heap.size w W := ⟨_, rfl⟩
        have RF := refs_any m2 (.slice tA tn tc) (.slice oA on oc) (.slice (some ⟨gS, 0, none⟩) 16 sc) 41 #[] #[.pointer (some ⟨pb, 0, none⟩), .pointer (some ⟨p6 + 1, 0, none⟩)] b1 J wr hb1r (by rw [hm2]; exact HRO.out _) (fun _ _ => rfl)
          (by
            intro n i m' W W' hj hb
            subst hJ
            obtain ⟨a1, b, a2, a3, a4, a5, a6, a7⟩ := hj
            exact ⟨a1, b, a2, a3.below hb, a4.below hb, a5.below hb, a6.below hb, a7.trans (hb.mono a7.size)⟩)
          (by
            intro n m' W hn hj
            subst hJ; subst hm2
            obtain ⟨a1, b, a2, a3⟩ := hj
            exact ⟨a1.trans mapP_next, b, a2.trans (or_congr Iff.rfl (refTo_next (m := m) hn)), a3⟩)
          (by
            intro n i m' W hn hi hk3 hj
            subst hJ; subst hm2
            obtain ⟨a1, b, a2, a3⟩ := hj
            refine ⟨a1.trans (mapP_skip (if_neg (fun h => hk3 h.1))).symm, b, a2.trans (or_congr Iff.rfl ?_), a3⟩
            rw [refTo_step (m := m) hn hi]
            exact ⟨.inl, fun h => h.elim id (fun h => absurd h.2.1 hk3)⟩)
          (by
            intro n i m' gf W hn hi hk3 hl hW omW ofW hj
            subst hJ
            obtain ⟨a1, b, a2, a3, a4, a5, a6, a7⟩ := hj
            exact free_step hm2 hn hi hk3 hn1 (z := w.heap.size + 1 + 1) (by omega) omW ofW a1 a2 a3 a4 a5 a6 a7 (by omega) (by omega) hpz (by omega))
          m2 (Like.refl _) om (by subst hJ; exact ⟨by rw [mapP_zero], bb, hbb.trans ⟨.inl, fun h => h.elim id (fun h => absurd h refTo_zero)⟩, r3, r4, r5, r9, B⟩)
        have RF := Lib.hid RF; have HM2 := Lib.hid hm2; have HJ := Lib.hid hJ
        have c4 := r4.cell
        clear hh om r3 r4 r5 r9 hbb hJ hm2 B hb1r
        go_wp2_with fail
        refine RF.out.mono ?_
        rintro e wf ⟨rfl, m3, hl3, om, hj3⟩
        rw [HJ.out] at hj3
        obtain ⟨a1, b, a2, r3, r4, r5, r9, B⟩ := hj3
        have hm3 : m3 = ⟨m.types, m.objs.map (lowO m n'), S1.map (lowS n')⟩ := by
          rw [a1, HM2.out]
          exact free_map
        have hN3 : m2.objs.length = m.objs.length := by rw [HM2.out]
        rw [hN3] at a2
        have hbz : b = true ↔ Busy m (k : Int) n' := by rw [HBU.out, a2, HS1.out, H16.out]
        rw [hm3] at om
        clear a1 a2 hl3 c4 RF hN3 hm3
        have c9 := r9.cell; have c3 := r3.cell; have f3 := r3.free
        rcases b with _ | _
        · have hnb : ¬ Busy m (k : Int) n' := fun h => by have := hbz.2 h; cases this
          have hM1 : M = ⟨m.types, (m.objs.map (lowO m n')).eraseIdx n', S1.map (lowS n')⟩ := by rw [HM.out, if_neg hnb, HS1.out]
          have hr1 : r = 0 := by rw [HRR.out, if_neg hnb]
          obtain ⟨gO, oc', hO⟩ : ∃ g c, Value.slice oA on oc = .slice (some ⟨g, 0, none⟩) on c := by
            obtain ⟨vs, z1, z2, _⟩ := om.o
            obtain ⟨g, c, cur, e, _⟩ := own_form z2 (by simp; have := HN.out; omega)
            refine ⟨g, c, ?_⟩
            rw [e]; injection e with _ e2; rw [e2]
          cases hO
          obtain ⟨hon, xs, z2, z1, HER⟩ := om.o.erase (i := n') (by simpa using HN.out) (by simp; have := HOB.out; omega)
          have hon2 : on = m.objs.length := by simpa using hon
          have hni : n' < on := by rw [hon2]; exact HN.out
          have DE := Lib.hid (Delete_any gO on oc n' (n' + 1) b1 xs rfl hni (by have := HOB.out; omega) wf z2 z1)
          have OM := Lib.hid om; have HER := Lib.hid HER
          have c4 := r4.cell; have c5 := r5.cell
          have hw1 : IntKind.i64.wrap ((n' : Int) + 1) = (n' : Int) + 1 := IntWalk.i64_in _ (by omega)
          clear om z1 z2 hon hon2 hbz hnb
          subst hM1; subst hr1
          go_wp2_with fail
          refine DE.out.mono ?_
          rintro e wd ⟨rfl, od, gd⟩
          have oO2 := HER.out wd gd od
          have neq : ∀ {q : Nat} {tq : TypeId} {cs : Array Value}, Bx wf q tq cs → 45 ≠ tq → gO ≠ q := fun hx hne => by
            obtain ⟨vs, z1, z2, _⟩ := OM.out.o
            exact own_ne_bx z2 hx hne
          have nx := fun {q : Nat} {tq : TypeId} {cs : Array Value} (hb : Bx wf q tq cs) (hne : gO ≠ q) => hb.grown gd (.inr (fun e => hne (by injection e)))
          have y3 := nx r3 (neq r3 (by decide)); have y4 := nx r4 (neq r4 (by decide))
          have hgO : b1 ≤ gO := by
            obtain ⟨vs, z1, z2, _⟩ := OM.out.o
            exact (z2.lt gO rfl).1
          have B2 := B.grown gd B.size (fun k hk => by injection hk with hk; omega)
          have om2 : OwnM wd b1 48 (.slice tA tn tc) (.slice (some ⟨gO, 0, none⟩) (on - 1) oc) (.slice (some ⟨gS, 0, none⟩) 16 sc) ⟨m.types, (m.objs.map (lowO m n')).eraseIdx n', S1.map (lowS n')⟩ := by
            obtain ⟨vs, z1, z2, _⟩ := OM.out.o
            exact ⟨OwnT.kept OM.out.t z2 gd (by decide) (by decide), oO2, World.ownsRow.kept OM.out.s gd (own_unlike OM.out.s z2 (by decide))⟩
          obtain ⟨on1, hon1⟩ : ∃ n, n = on - 1 := ⟨_, rfl⟩
          rw [← hon1] at om2 ⊢
          have om3 := om2.set (i := 1) (u := .slice (some ⟨gO, 0, none⟩) on1 oc) y4
          have y43 := y4.set (i := 1) (.slice (some ⟨gO, 0, none⟩) on1 oc)
          have y33 := y3.far (p := ⟨p6, 1, none⟩) (by show _ ≠ p6; omega) (.slice (some ⟨gO, 0, none⟩) on1 oc)
          have B3 := B2.setCell (p := ⟨p6, 1, none⟩) (by show _ ≤ p6; omega) (.slice (some ⟨gO, 0, none⟩) on1 oc)
          have HF := Lib.hid (And.intro om3 (And.intro y33 (And.intro (show Bx (wd.setCell ⟨p6, 1, none⟩ (.slice (some ⟨gO, 0, none⟩) on1 oc)) p6 26 #[.slice tA tn tc, .slice (some ⟨gO, 0, none⟩) on1 oc, .slice (some ⟨gS, 0, none⟩) 16 sc] by simpa using y43) B3)))
          have cy4 := y4.cell; have fy4 := y4.free
          clear om3 y33 y43 B3 om2 y3 y4 nx neq B2 oO2 gd od r3 r4 r5 r9 B c9 c3 f3 c4 c5 hon1 OM HER DE
          go_upto_region 17 with (fail)
          refine wp_gen (fun Wv => OwnM Wv b1 48 (.slice tA tn tc) (.slice (some ⟨gO, 0, none⟩) on1 oc) (.slice (some ⟨gS, 0, none⟩) 16 sc) ⟨m.types, (m.objs.map (lowO m n')).eraseIdx n', S1.map (lowS n')⟩ ∧ Bx Wv (w.heap.size + 1 + 1) 26 #[.slice none 0 0, .slice none 0 0, .slice none 0 0] ∧ Bx Wv p6 26 #[.slice tA tn tc, .slice (some ⟨gO, 0, none⟩) on1 oc, .slice (some ⟨gS, 0, none⟩) 16 sc] ∧ Below w.heap.size w Wv) HF.out ?_
          clear HF cy4 fy4
          rintro wl ⟨om3, r3, r4, B3⟩
          have c3 := r3.cell; have f3 := r3.free; have c4 := r4.cell
          go_wp2
          refine bodyPost_ret (v := .tuple #[.agg #[.slice tA tn tc, .slice (some ⟨gO, 0, none⟩) on1 oc, .slice (some ⟨gS, 0, none⟩) 16 sc], .int .i64 0]) (by simp [results, Try.results22, go_sem, c3, f3]) rfl ?_
          refine ⟨_, _, _, rfl, OwnM.set3 (om3.mono (by omega)) r3, ?_⟩
          exact ((B3.setCell (p := ⟨w.heap.size + 1 + 1, 0, none⟩) (by simp; omega) _).setCell (p := ⟨w.heap.size + 1 + 1, 1, none⟩) (by simp; omega) _).setCell (p := ⟨w.heap.size + 1 + 1, 2, none⟩) (by simp; omega) _
        · have hM1 : M = .nil := by rw [HM.out, if_pos (hbz.1 rfl)]
          have hr1 : r = 45 := by rw [HRR.out, if_pos (hbz.1 rfl)]
          subst hM1; subst hr1
          clear om r4 r5 hbz
          go_wp2
          refine bodyPost_ret (v := .tuple #[.agg #[.slice none 0 0, .slice none 0 0, .slice none 0 0], .int .i64 45]) (by simp [results, Try.results22, go_sem, c3, f3]) rfl ?_
          refine ⟨_, _, _, rfl, OwnM.nil _ _, ?_⟩
          exact ((B.setCell (p := ⟨w.heap.size + 1 + 1, 0, none⟩) (by simp; omega) _).setCell (p := ⟨w.heap.size + 1 + 1, 1, none⟩) (by simp; omega) _).setCell (p := ⟨w.heap.size + 1 + 1, 2, none⟩) (by simp; omega) _
  · have hr1 : r = asked m sl g := by rw [hr, freeE, if_neg ha]
    have hM1 : M = .nil := by
      rw [hM, freeM, if_neg]; rw [freeE, if_neg ha]; exact ha
    rw [hM1]
    exact Free20_no tv ov sv m sl g r hr1 ha w h
theorem Free20_any (tv ov sv : Value) (m : Mo) (sl g : Int) (M : Mo) (r : Int) (hM : M = freeM m sl g) (hr : r = freeE m sl g) (w : World) (h : Mod w tv ov sv m) :
    Calls Try.prog 22 #[.agg #[tv, ov, sv], .agg #[.int .i64 sl, .int .i64 g]] w fun e w' => ∃ t' o' s', e = .returned (.tuple #[.agg #[t', o', s'], .int .i64 r]) ∧ Mod w' t' o' s' M ∧ Below w.heap.size w w' :=
  (Free20_own tv ov sv m sl g M r hM hr w h).mono fun e w' ⟨t', o', s', h1, h2, h3⟩ => ⟨t', o', s', h1, h2.rd, h3⟩
end Go.Proofs.Yteejianjjpdimaa
namespace Go.Proofs.Yteejianjjpdimaa
open Go.RowKit L02 L13 L18 L20
end Go.Proofs.Yteejianjjpdimaa
namespace Go.Proofs.Yteejianjjpdimaa
open Go Go.RowKit
section
variable {P : Program} {ops : Array Oper} {rest : List Oper} {o : Oper} {a : Act} {Q : Exit → Act → World → Prop} {w : World}
theorem run_append_own2 (base : Nat) (t ty e : TypeId) (i : TypeInfo) (z : Value) (size bytes : Nat) (ht : P.underlying t = some (.slice e)) (hi : P.info? e = some i) (hz : i.zero = some z)
    (hsize : i.size = size) (hby : i.bytes = bytes) (hzs : z.cells.size = size) (hsz : 0 < size) (v : Value) (n : Nat) (xs : List Value) (hown : w.ownsRow base e size v n xs)
    (ad : Addr) (m c : Nat) (news : List Value) (hl : news.length = m * size) (hnews : ∀ j u, news[j]? = some u → w.cell? (ad.add j) = some u) (h1 : ∀ u ∈ news, u.oneCell' = true)
    (h63 : n + m ≤ maxLen) (hbytes : (n + m) * bytes ≤ 140737488355328) (hbase : base ≤ w.heap.size) :
    ∃ v' w', (Builtin.append_ #[t, t] ty #[v, .slice (some ad) m c]).run P w = .ok v' w' ∧ w'.ownsRow base e size v' (n + m) (xs ++ news) ∧ w.grownBy w' v.ownBlock ∧ ∀ g, v'.ownBlock = some g → v.ownBlock = some g ∨ w.heap.size ≤ g := by
  obtain ⟨v', w', hrun, r1, r2, _⟩ := run_append_own (P := P) w base t ty e i z size bytes ht hi hz hsize hby hzs hsz v n xs hown ad m c news hl hnews h1 h63 hbytes hbase
  refine ⟨v', w', hrun, r1, r2, fun g hg => ?_⟩
  rcases hown.2 with ⟨rfl, rfl⟩ | ⟨g0, cap, cur, rfl, hB, hg0, hc, hm, hcs, htk⟩
  · have hxs : xs = [] := List.eq_nil_of_length_eq_zero (by have := hown.1; simpa using this)
    obtain ⟨v2, w2, hrun2, r3, _⟩ := run_append_own (P := P) w w.heap.size t ty e i z size bytes ht hi hz hsize hby hzs hsz (.slice none 0 0) 0 [] (World.ownsRow_nil w _ _ _) ad m c news hl hnews h1 h63 hbytes (Nat.le_refl _)
    rw [hrun] at hrun2
    injection hrun2 with e1 e2
    subst e1; subst e2
    exact .inr (r3.lt g hg).1
  · subst hsize
    have hcell : ∀ j u, xs[j]? = some u → w.cell? ((⟨g0, 0, none⟩ : Addr).add j) = some u := fun j u hu => hown.cells (g := g0) rfl j u hu
    by_cases hroom : n + m ≤ cap
    · have hr := run_append_room_cells (P := P) w t ty e i ht hi g0 0 n cap ad m c news hl hnews h1 hroom (fun j hj => by
        have hlt : 0 + n * i.size + j < cur.size := by
          have : (n + m) * i.size ≤ cap * i.size := Nat.mul_le_mul hroom (Nat.le_refl _)
          rw [Nat.add_mul] at this; rw [hcs]; rw [hl] at hj; omega
        have := cell_of_row w g0 (0 + n * i.size + j) cur e (0, 0) hg0
        rw [this, Array.getElem?_eq_getElem hlt]; rfl) (fun j hj => frozen_of_row w g0 _ cur e hg0)
      rw [hrun] at hr
      injection hr with e1 e2
      subst e1
      exact .inl hg
    · obtain ⟨v2, w2, hrun2, r3, _⟩ := run_append_arg_grows (P := P) w t ty e i z i.size bytes ht hi hz rfl hby hzs hsz ⟨g0, 0, none⟩ n cap xs hown.1 hcell ad m c news hl hnews (by omega) h63 hbytes
      rw [hrun] at hrun2
      injection hrun2 with e1 e2
      subst e1; subst e2
      exact .inr (r3.lt g hg).1
theorem wpList_append2 (hgd : Region.wanted o (yielded ops a.tmps) = true) {s x : Operand} {t e B sz by_ : Nat} (ho : o.op = .call { callee := .builtin .append, args := #[s, x], argTypes := #[t, t] })
    {v z : Value} {n m c : Nat} {xs ys : List Value} (hs : a.eval s = v) {ad : Addr} (hx : a.eval x = .slice (some ad) m c) (ht : P.underlying t = some (.slice e))
    (hi : (P.info? e).map (fun i => (i.zero, i.size, i.bytes)) = some (some z, sz, by_)) (hzs : z.cells.size = sz) (hsz : 0 < sz)
    (hown : w.ownsRow B e sz v n xs) (hrd : Rd w sz (.slice (some ad) m c) m ys) (h1 : ∀ u ∈ ys, u.oneCell' = true) (hm : 0 < m) (h63 : n + m ≤ 9223372036854775807) (hbytes : (n + m) * by_ ≤ 140737488355328)
    {w0 : World} (hb : Below B w0 w) (hB : B ≤ w0.heap.size)
    (h : ∀ v' w', w'.ownsRow B e sz v' (n + m) (xs ++ ys) → Below B w0 w' → w.grownBy w' v.ownBlock → (∀ g, v'.ownBlock = some g → v.ownBlock = some g ∨ w.heap.size ≤ g) → wpList P ops Q rest (a.put o.dst v') w') : wpList P ops Q (o :: rest) a w := by
  obtain ⟨i, hi1, hi2, hi3, hi4⟩ := info3 hi
  have hcell : ∀ j u, ys[j]? = some u → w.cell? (ad.add j) = some u := by
    obtain ⟨A, c', e1, s1, s2, s3, s4, s5⟩ := hrd
    injection e1 with e1 _ _
    intro j u hu
    obtain ⟨p1, p2, p3⟩ := s5 hm ad e1.symm
    obtain ⟨b, q, sp⟩ := ad
    simp at p1; subst p1
    rw [show ((⟨b, q, none⟩ : Addr).add j) = ⟨b, q + j, none⟩ by unfold Addr.add; split <;> simp_all]
    exact p3 j u hu
  have hyl : ys.length = m * sz := by obtain ⟨A, c', e1, s1, s2, s3, _⟩ := hrd; exact s3
  obtain ⟨v', w', hrun, r1, r2, r3⟩ := run_append_own2 (P := P) (w := w) B t o.type e i z sz by_ ht hi1 hi2 hi3 hi4 hzs hsz v n xs hown ad m c ys hyl hcell h1 (by unfold maxLen; omega) hbytes (Nat.le_trans hB hb.size)
  refine wpList_wanted hgd fun K hK => ?_
  unfold Oper.wp
  simp [execOp, ho, resolve, invoke, builtin, hs, hx, hrun, Result.andThen]
  exact hK _ _ (h v' w' r1 (hb.grown r2 (Nat.le_trans hB hb.size) fun k hk => (hown.lt k hk).1) r2 r3)
end
end Go.Proofs.Yteejianjjpdimaa
namespace Go.Proofs.Yteejianjjpdimaa
open Go.RowKit
end Go.Proofs.Yteejianjjpdimaa
namespace Go.Proofs.Yteejianjjpdimaa
open Go.RowKit L02 L13 L18 L20
/-- memory while the reference searches: seen, what is found, the stack -/
structure Fnd (w wr : World) (tv ov sv : Value) (N : Nat) (sn on st : Value) (od ord S : List Nat) : Prop where
  g1 : Bx wr w.heap.size 26 #[tv, ov, sv]
  hs : wr.ownsRow w.heap.size 4 1 sn N ((seenV N od).map .bool)
  ho : OwnI wr w.heap.size 3 on (natI ord)
  ht : OwnI wr w.heap.size 3 st (natI S)
  ne : ∀ g, st.ownBlock = some g → on.ownBlock ≠ some g
  B : Below w.heap.size w wr
section
variable {w wr w' : World} {tv ov sv sn on st v' : Value} {N x : Nat} {od ord S : List Nat}
theorem Fnd.below (e : Fnd w wr tv ov sv N sn on st od ord S) (b : Below wr.heap.size wr w') : Fnd w w' tv ov sv N sn on st od ord S :=
  ⟨e.g1.below b, own_below e.hs b, OwnI.below e.ho b, OwnI.below e.ht b, e.ne, e.B.trans (b.mono e.B.size)⟩
theorem lit_b (wr : World) (x : Nat) : Below wr.heap.size wr (wr.alloc (.cells #[.int .i64 (x : Int)] 3)) := (Below.refl _ wr).alloc (Nat.le_refl _) _
theorem ne_swap {a b : Value} (h : ∀ g, b.ownBlock = some g → a.ownBlock ≠ some g) : a.ownBlock = none ∨ a.ownBlock ≠ b.ownBlock := by
  cases hb : b.ownBlock with
  | none => cases a.ownBlock <;> simp
  | some g => exact .inr (h g hb)
theorem ne_swap' {a b : Value} (h : ∀ g, b.ownBlock = some g → a.ownBlock ≠ some g) : b.ownBlock = none ∨ b.ownBlock ≠ a.ownBlock := by
  cases hb : b.ownBlock with
  | none => exact .inl rfl
  | some g => exact .inr (fun e => h g hb e.symm)
end
end Go.Proofs.Yteejianjjpdimaa
namespace Go.Proofs.Yteejianjjpdimaa
open Go.RowKit L02 L13 L18 L20
end Go.Proofs.Yteejianjjpdimaa
namespace Go.Proofs.Yteejianjjpdimaa
open Go.RowKit L02 L13 L18 L20
/-- a number of an own row is stored -/
theorem OwnI.put {w : World} {B E : Nat} {v : Value} {l : List Int} (h : OwnI w B E v l) {k : Nat} (hk : k < l.length) : ∃ gs, v.ownBlock = some gs ∧ (∀ W, (Instr.indexAt 30 v (.int .i64 (k : Int))).run Try.prog W = .ok (.pointer (some ⟨gs, k, none⟩)) W) ∧ w.cell? ⟨gs, k, none⟩ = some (.int .i64 (l.getD k 0)) ∧ w.frozen? ⟨gs, k, none⟩ = false ∧ B ≤ gs ∧ gs < w.heap.size ∧
    ∀ x : Int, OwnI (w.setCell ⟨gs, k, none⟩ (.int .i64 x)) B E v (l.set k x) ∧ w.grownBy (w.setCell ⟨gs, k, none⟩ (.int .i64 x)) (some gs) := by
  obtain ⟨gs, cap, cur, rfl, hB, hg, hnc, hcm, hcs, htake⟩ := own_form h (by omega)
  have hix := fun W => Rd.ixN (P := Try.prog) (Rd.of_own h) Try.underlying30 one_int hk W
  have hc := Rd.cell (Rd.of_own h) (j := k) (u := .int .i64 (l.getD k 0)) (by rw [List.getElem?_map, List.getElem?_eq_getElem hk, List.getD_eq_getElem?_getD, List.getElem?_eq_getElem hk]; rfl)
  refine ⟨gs, rfl, fun W => by have := hix W; simpa [cellAt] using this, by simpa [cellAt] using hc, h.frozenAt k, hB, (World.ownsRow.lt h gs rfl).2, fun x => ?_⟩
  have hst := World.ownsRow.stored h k (.int .i64 x)
  refine ⟨?_, hst.2⟩
  refine OwnI.of hst.1 ?_
  rw [List.map_set]; rfl
end Go.Proofs.Yteejianjjpdimaa
namespace Go.Proofs.Yteejianjjpdimaa
open Go.RowKit L02 L13 L18 L20
/-- all blocks but numbers and finders are as they were -/
def FrT (w w' : World) : Prop := w.heap.size ≤ w'.heap.size ∧ ∀ (k : Nat) (cs : Array Value) (e : TypeId) (fr : Nat × Nat), e ≠ 3 → e ≠ 64 → w.heap[k]? = some (.cells cs e fr) → w'.heap[k]? = some (.cells cs e fr)
section
variable {w w' w'' : World}
theorem FrT.refl (w : World) : FrT w w := ⟨Nat.le_refl _, fun _ _ _ _ _ _ h => h⟩
theorem FrT.trans (h : FrT w w') (h2 : FrT w' w'') : FrT w w'' := ⟨Nat.le_trans h.1 h2.1, fun k cs e fr a b hk => h2.2 k cs e fr a b (h.2 k cs e fr a b hk)⟩
theorem FrT.of_below (h : Below w.heap.size w w') : FrT w w' := ⟨h.size, fun k cs e fr _ _ hk => (h.block k (Array.getElem?_eq_some_iff.1 hk).1).trans hk⟩
theorem Bx.frT {g : Nat} {t : TypeId} {cs : Array Value} (h : Bx w g t cs) (hf : FrT w w') (h1 : t ≠ 3) (h2 : t ≠ 64) : Bx w' g t cs := hf.2 g cs t (0, 0) h1 h2 h
theorem own_frT {B e sz n : Nat} {v : Value} {xs : List Value} (h : w.ownsRow B e sz v n xs) (hf : FrT w w') (h1 : e ≠ 3) (h2 : e ≠ 64) : w'.ownsRow B e sz v n xs := by
  refine ⟨h.1, h.2.imp id ?_⟩
  rintro ⟨g, cap, cur, a1, a2, a3, a4⟩
  exact ⟨g, cap, cur, a1, a2, hf.2 g cur e (0, 0) h1 h2 a3, a4⟩
theorem OwnM.frT {B : Nat} {tv ov sv : Value} {m : Mo} (h : OwnM w B 48 tv ov sv m) (hf : FrT w w') : OwnM w' B 48 tv ov sv m := by
  obtain ⟨⟨vs, a1, a2, a3⟩, ⟨us, b1, b2, b3, b4⟩, c⟩ := h
  exact ⟨⟨vs, a1, own_frT a2 hf (by decide) (by decide), fun i x l h1 h2 => own_frT (a3 i x l h1 h2) hf (by decide) (by decide)⟩, ⟨us, b1, own_frT b2 hf (by decide) (by decide), fun i x l h1 h2 => own_frT (b3 i x l h1 h2) hf (by decide) (by decide), b4⟩, own_frT c hf (by decide) (by decide)⟩
theorem FrT.grown {g : Nat} {cs : Array Value} {t : TypeId} (hg : w.grownBy w' (some g)) (hx : Bx w g t cs) (ht : t = 3 ∨ t = 64) : FrT w w' := by
  refine ⟨hg.size, fun k cs' e fr h1 h2 hk => (hg.block k (Array.getElem?_eq_some_iff.1 hk).1 ?_).trans hk⟩
  rintro e1
  injection e1 with e1
  subst e1
  unfold Bx at hx
  rw [hk] at hx
  injection hx with hx
  injection hx with _ hx _
  subst hx
  exact ht.elim h1 h2
theorem FrT.grownI {B n : Nat} {v : Value} {xs : List Value} (hg : w.grownBy w' v.ownBlock) (hx : w.ownsRow B 3 1 v n xs) : FrT w w' := by
  rcases hx.2 with ⟨rfl, _⟩ | ⟨g, cap, cur, rfl, _, h3, _⟩
  · exact ⟨hg.size, fun k cs' e fr h1 h2 hk => (hg.block k (Array.getElem?_eq_some_iff.1 hk).1 (by intro e; cases e)).trans hk⟩
  · exact FrT.grown (g := g) hg h3 (.inl rfl)
end
/-- memory while the program searches -/
structure Fi (b : Nat) (w : World) (pf : Nat) (tv ov sv nv rv : Value) (m : Mo) (od ord : List Nat) : Prop where
  g : Bx w pf 64 #[tv, ov, sv, nv, rv]
  hn : OwnI w b 3 nv (numsI m od)
  hr : OwnI w b 3 rv (natI ord)
  om : OwnM w b 48 tv ov sv m
  ne : ∀ g, nv.ownBlock = some g → rv.ownBlock ≠ some g
  hb : b ≤ pf
section
variable {b pf : Nat} {w w' : World} {tv ov sv nv rv : Value} {m : Mo} {od ord : List Nat}
theorem Fi.below (e : Fi b w pf tv ov sv nv rv m od ord) (h : Below w.heap.size w w') : Fi b w' pf tv ov sv nv rv m od ord :=
  ⟨e.g.below h, e.hn.below h, e.hr.below h, e.om.below h, e.ne, e.hb⟩
/-- one more is found -/
theorem Fi.push {v' : Value} {x n : Nat} (e : Fi b w pf tv ov sv nv rv m od ord) (hbw : b ≤ w.heap.size) (o : w'.ownsRow b 3 1 v' n ((natI ord).map i64 ++ [.int .i64 (x : Int)])) (hg : (w.alloc (.cells #[.int .i64 (x : Int)] 3)).grownBy w' rv.ownBlock)
    (hk : ∀ g, v'.ownBlock = some g → rv.ownBlock = some g ∨ (w.alloc (.cells #[.int .i64 (x : Int)] 3)).heap.size ≤ g) :
    Bx w' pf 64 #[tv, ov, sv, nv, rv] ∧ Fi b (w'.setCell ⟨pf, 4, none⟩ v') pf tv ov sv nv v' m od (ord ++ [x]) ∧ FrT w (w'.setCell ⟨pf, 4, none⟩ v') ∧ Below b w (w'.setCell ⟨pf, 4, none⟩ v') := by
  have lb : Below w.heap.size w (w.alloc (.cells #[.int .i64 (x : Int)] 3)) := (Below.refl _ w).alloc (Nat.le_refl _) _
  have e2 := e.below lb
  have g' := e2.g.grown hg (own_not_bx e2.hr e2.g (by decide))
  have f1 : FrT w w' := (FrT.of_below lb).trans (FrT.grownI hg e2.hr)
  have hsc := grown_set w' ⟨pf, 4, none⟩ v'
  have f2 : FrT w' (w'.setCell ⟨pf, 4, none⟩ v') := FrT.grown hsc g' (.inr rfl)
  have hrB := World.ownsRow.kept e2.hn hg (ne_swap' (a := rv) (b := nv) (fun g h1 h2 => e.ne g h1 h2))
  refine ⟨g', ⟨?_, ?_, ?_, ?_, fun g h1 h2 => ?_, e.hb⟩, f1.trans f2, ?_⟩
  · have := g'.set (i := 4) v'
    simpa using this
  · exact World.ownsRow.kept hrB hsc (own_not_bx hrB g' (by decide))
  · exact OwnI.of (World.ownsRow.kept o hsc (own_not_bx o g' (by decide))) (by rw [natI_snoc, List.map_append]; rfl)
  · exact e.om.frT (f1.trans f2)
  · rcases hk g h2 with h | h
    · exact e.ne g h1 h
    · have := (World.ownsRow.lt e.hn g h1).2
      simp at h; omega
  · exact (((Below.refl b w).alloc hbw (.cells #[.int .i64 (x : Int)] 3)).grown hg (Nat.le_trans hbw (by simp)) (fun k hk => (World.ownsRow.lt e.hr k hk).1)).setCell (p := ⟨pf, 4, none⟩) e.hb _
/-- .. and numbered -/
theorem Fi.num {n : Nat} (e : Fi b w pf tv ov sv nv rv m od (od ++ [n])) (hni : n ∉ od) (hlt : n < m.objs.length) : ∃ gs, (∀ W, (Instr.indexAt 30 nv (.int .i64 (n : Int))).run Try.prog W = .ok (.pointer (some ⟨gs, n, none⟩)) W) ∧ (w.cell? ⟨gs, n, none⟩).isSome = true ∧ w.frozen? ⟨gs, n, none⟩ = false ∧
    Fi b (w.setCell ⟨gs, n, none⟩ (.int .i64 ((od.length : Int) + 1))) pf tv ov sv nv rv m (od ++ [n]) (od ++ [n]) ∧ FrT w (w.setCell ⟨gs, n, none⟩ (.int .i64 ((od.length : Int) + 1))) ∧ b ≤ gs := by
  obtain ⟨gs, e1, ix, mc, mf, hgB, hgl, hst⟩ := e.hn.put (k := n) (by rw [numsI_len]; exact hlt)
  obtain ⟨s1, s2⟩ := hst ((od.length : Int) + 1)
  rw [numsI_step hni hlt] at s1
  have hne : rv.ownBlock = none ∨ rv.ownBlock ≠ some gs := .inr (e.ne gs e1)
  have hgf : gs ≠ pf := by
    rintro rfl
    rcases own_not_bx e.hn e.g (by decide) with h | h
    · rw [h] at e1; cases e1
    · exact h e1
  have fr : FrT w (w.setCell ⟨gs, n, none⟩ (.int .i64 ((od.length : Int) + 1))) := FrT.grownI (v := nv) (by rw [e1]; exact s2) e.hn
  exact ⟨gs, ix, by rw [mc]; rfl, mf, ⟨e.g.far (p := ⟨gs, n, none⟩) hgf.symm _, s1, World.ownsRow.kept e.hr s2 hne, e.om.frT fr, e.ne, e.hb⟩, fr, hgB⟩
end
end Go.Proofs.Yteejianjjpdimaa
