/- Contracts of the functions that the law 'FormatEmpty' reaches, part 5. No condition. -/
import Derived.Test.YtbfmdbeeiicabaaMFEyd
set_option linter.unusedVariables false
set_option linter.unusedSimpArgs false
namespace Go.Proofs.Ytbfmdbeeiicabaa
open Go.RowKit L02 L05 L06 L07
set_option maxHeartbeats 2000000 in
theorem TCopyR_any (v : Value) (m : List UInt64) (hs : SizeOk m.length) (k : Int) (l : List UInt64) (hk : k = 0 ∧ l = c0 m ∨ k = 1 ∧ l = c1 m) (W T : Int) (b : Bool) (hb : b = decide (CopyOk m.length l)) (hW : W = if CopyOk m.length l then (m.length : Int) else 0) (hT : T = if CopyOk m.length l then at3 l else 0) (w : World) (h : Words w v m) :
    Calls Try.prog 134 #[v, .int .i64 k] w fun e w' => e = .returned (.tuple #[.agg #[.int .i64 W, .int .i64 T], .bool b]) ∧ Below w.heap.size w w' := by
  have B : Below w.heap.size w w := Below.refl _ _
  have hn := hs.1
  have l1 := Rd.len h Try.underlying22
  have hl : l.length = 8 := by rcases hk with ⟨_, rfl⟩ | ⟨_, rfl⟩; exact c0_len hs; exact c1_len hs
  have sl : ∃ v', (∀ W, (Instr.sliceAt 22 v (some (.int .i64 (8 * k))) (some (.int .i64 (8 * k + 8))) none).run Try.prog W = .ok v' W) ∧ Words w v' l := by
    rcases hk with ⟨rfl, rfl⟩ | ⟨rfl, rfl⟩
    · exact h.cut (P := Try.prog) Try.underlying22 one_u64 (lo := 0) (hi := 8) (by omega) (by omega) (by omega)
    · exact h.cut (P := Try.prog) Try.underlying22 one_u64 (lo := 8) (hi := 16) (by omega) (by omega) (by omega)
  obtain ⟨v', sl', hv'⟩ := sl
  obtain ⟨a0, ha0⟩ : ∃ x, x = rdW l := ⟨_, rfl⟩
  obtain ⟨t0, ht0⟩ : ∃ x, x = rdT l := ⟨_, rfl⟩
  obtain ⟨e0, he0⟩ : ∃ x, x = rdErr l := ⟨_, rfl⟩
  have R0 := Lib.hid (fun w h => Read6R_r v' l (by omega) a0 t0 e0 ha0 ht0 he0 w h)
  obtain ⟨n, hnn⟩ : ∃ n, n = m.length := ⟨_, rfl⟩
  rw [← hnn] at l1
  have K : (e0 = 0 ∧ (a0 != (n : Int)) = false ∧ b = true ∧ W = a0 ∧ T = t0) ∨ (e0 = 0 ∧ (a0 != (n : Int)) = true ∧ b = false ∧ W = 0 ∧ T = 0) ∨ ((e0 != 0) = true ∧ b = false ∧ W = 0 ∧ T = 0) := by
    by_cases hg : CopyOk m.length l
    · obtain ⟨g1, g2⟩ := (good_rd hl).1 hg
      rw [if_pos hg] at hW hT
      exact .inl ⟨by rw [he0]; exact g1, by rw [bne_eq_false_iff_eq, ha0, g2, hnn], by rw [hb]; exact decide_eq_true hg, by rw [hW, ha0, g2], by rw [hT, ht0, (rd_ok3 hg.1).2]⟩
    · rw [if_neg hg] at hW hT
      rw [decide_eq_false hg] at hb
      by_cases h0 : e0 = 0
      · refine .inr (.inl ⟨h0, ?_, hb, hW, hT⟩)
        rw [bne_iff_ne]; intro ha; exact hg ((good_rd hl).2 ⟨by rw [← he0]; exact h0, by rw [← ha0, ha, hnn]⟩)
      · exact .inr (.inr ⟨by rw [bne_iff_ne]; exact h0, hb, hW, hT⟩)
  have hk2 : 0 ≤ k ∧ k ≤ 1 := by omega
  have w1 : IntKind.i64.wrap (8 * k) = 8 * k := IntWalk.i64_in _ (by omega)
  have w2 : IntKind.i64.wrap (8 * k + 8) = 8 * k + 8 := IntWalk.i64_in _ (by omega)
  have HV := Lib.hid hv'
  clear h hs hk hb hW hT hl hv' ha0 ht0 he0 hnn hn hk2
  rcases K with ⟨rfl, hq, rfl, rfl, rfl⟩ | ⟨rfl, hq, rfl, rfl, rfl⟩ | ⟨hq, rfl, rfl, rfl⟩
  all_goals
    go_enter Try.func134, Try.ntmps134
    go_upto_region 1 with (fail)
    refine wp_gen (fun Wv => Bx Wv (w.heap.size) (60) (#[.int .i64 0, .int .i64 0]) ∧ Below w.heap.size w Wv) ⟨((Bx.at_ (by simp))), ((Below.refl _ w).alloc (by simp <;> omega) _)⟩ ?_
    rintro wa1 ⟨g4, b⟩
    replace B := B.trans (b.mono B.size); clear b
    have c_g4 := g4.cell; have f_g4 := g4.free; have a_g4 := fun o => (g4.alloc o).cell; have d_g4 := fun o o2 => ((g4.alloc o).alloc o2).cell; have e_g4 := fun o => (g4.alloc o).free
    go_wp2_with fail
    refine (R0.out _ (HV.out.below B)).mono ?_
    rintro e wx ⟨rfl, b⟩
    clear c_g4 f_g4 a_g4 d_g4 e_g4
    replace g4 := g4.below b; replace B := B.trans (b.mono B.size); clear b
    have c_g4 := g4.cell; have f_g4 := g4.free; have a_g4 := fun o => (g4.alloc o).cell; have e_g4 := fun o => (g4.alloc o).free
    go_wp2
    refine bodyPost_ret (by simp [results, Try.results134, go_sem, c_g4, f_g4, a_g4, e_g4]) rfl ⟨rfl, ?_⟩
    (repeat (first | refine Below.setCell ?_ (by first | exact Nat.le_refl _ | (simp <;> omega)) _ | refine Below.alloc ?_ (by first | exact B.size | (have := B.size; simp <;> omega)) _)); exact B
set_option maxHeartbeats 2000000 in
theorem TReadR_any (v : Value) (m : List UInt64) (W T : Int) (b0 b1 : Bool) (r : Int) (hW : W = sW m) (hT : T = sT m) (h0 : b0 = is0 m) (h1 : b1 = is1 m) (hr : r = rErr m) (w : World) (h : Words w v m) :
    Calls Try.prog 103 #[v] w fun e w' => e = .returned (.tuple #[.agg #[.int .i64 W, .int .i64 T], .agg #[.bool b0, .bool b1], .int .i64 r]) ∧ Below w.heap.size w w' := by
  have B : Below w.heap.size w w := Below.refl _ _
  have CT := fun w h => CheckR_any v m w h
  by_cases hs : SizeOk m.length
  rotate_left
  · rw [chk_no hs] at CT
    obtain rfl : W = 0 := by rw [hW, sW, if_neg (by rw [rErr_no hs]; omega)]
    obtain rfl : T = 0 := by rw [hT, sT, if_neg (by rw [rErr_no hs]; omega)]
    obtain rfl : b0 = false := by rw [h0, is0_no hs]
    obtain rfl : b1 = false := by rw [h1, is1_no hs]
    obtain rfl : r = 8 := by rw [hr, rErr_no hs]
    have HC := Lib.hid CT; have H := Lib.hid h; clear CT h hs hW hT h0 h1 hr
    go_enter Try.func103, Try.ntmps103
    go_upto_region 1 with (fail)
    refine wp_gen (fun Wv => Bx Wv (w.heap.size) (60) (#[.int .i64 0, .int .i64 0]) ∧ Bx Wv (w.heap.size + 1) (61) (#[.bool false, .bool false]) ∧ Below w.heap.size w Wv) ⟨(((Bx.at_ (by simp)).alloc _)), ((Bx.at_ (by simp))), (((Below.refl _ w).alloc (by simp <;> omega) _).alloc (by simp <;> omega) _)⟩ ?_
    rintro w' ⟨g2, g3, b⟩
    replace B := B.trans (b.mono B.size); clear b
    have c_g2 := g2.cell; have f_g2 := g2.free; have a_g2 := fun o => (g2.alloc o).cell; have d_g2 := fun o o2 => ((g2.alloc o).alloc o2).cell; have e_g2 := fun o => (g2.alloc o).free
    have c_g3 := g3.cell; have f_g3 := g3.free; have a_g3 := fun o => (g3.alloc o).cell; have d_g3 := fun o o2 => ((g3.alloc o).alloc o2).cell; have e_g3 := fun o => (g3.alloc o).free
    go_wp2_with fail
    refine (HC.out _ (H.out.below B)).mono ?_
    rintro e w' ⟨rfl, rfl⟩
    go_wp2
    refine bodyPost_ret (v := .tuple #[.agg #[.int .i64 0, .int .i64 0], .agg #[.bool false, .bool false], .int .i64 8]) (by simp [results, Try.results103, go_sem, c_g2, f_g2, a_g2, e_g2, c_g3, f_g3, a_g3, e_g3]) rfl ?_
    exact ⟨rfl, by (repeat (first | refine Below.setCell ?_ (by first | exact Nat.le_refl _ | (simp <;> omega)) _ | refine Below.alloc ?_ (by first | exact B.size | (have := B.size; simp <;> omega)) _)); exact B⟩
  rw [chk_ok hs] at CT
  obtain ⟨a0, ha0⟩ : ∃ x, x = (if CopyOk m.length (c0 m) then (m.length : Int) else 0) := ⟨_, rfl⟩
  obtain ⟨t0, ht0⟩ : ∃ x, x = (if CopyOk m.length (c0 m) then at3 (c0 m) else 0) := ⟨_, rfl⟩
  obtain ⟨a1, ha1⟩ : ∃ x, x = (if CopyOk m.length (c1 m) then (m.length : Int) else 0) := ⟨_, rfl⟩
  obtain ⟨t1, ht1⟩ : ∃ x, x = (if CopyOk m.length (c1 m) then at3 (c1 m) else 0) := ⟨_, rfl⟩
  have R0 := Lib.hid (fun w h => TCopyR_any v m hs 0 (c0 m) (.inl ⟨rfl, rfl⟩) a0 t0 b0 (by rw [h0, is0_good hs]) ha0 ht0 w h)
  have R1 := Lib.hid (fun w h => TCopyR_any v m hs 1 (c1 m) (.inr ⟨rfl, rfl⟩) a1 t1 b1 (by rw [h1, is1_good hs]) ha1 ht1 w h)
  have F0 : b0 = true → W = a0 ∧ T = t0 ∧ r = 0 := by
    intro h
    have hi : is0 m = true := by rw [← h0]; exact h
    have hr0 := rErr_mk hs (.inl hi)
    have hg : CopyOk m.length (c0 m) := (of_decide_eq_true hi).2
    have ho : one m = c0 m := if_pos hi
    exact ⟨by rw [hW, sW, if_pos hr0, ha0, if_pos hg], by rw [hT, sT, if_pos hr0, ht0, if_pos hg, ho], by rw [hr, hr0]⟩
  have F1 : b0 = false → b1 = true → W = a1 ∧ T = t1 ∧ r = 0 := by
    intro h h'
    have hi : is1 m = true := by rw [← h1]; exact h'
    have hi0 : is0 m = false := by rw [← h0]; exact h
    have hr0 := rErr_mk hs (.inr hi)
    have hg : CopyOk m.length (c1 m) := (of_decide_eq_true hi).2
    have ho : one m = c1 m := if_neg (by simp [hi0])
    exact ⟨by rw [hW, sW, if_pos hr0, ha1, if_pos hg], by rw [hT, sT, if_pos hr0, ht1, if_pos hg, ho], by rw [hr, hr0]⟩
  have F2 : b0 = false → b1 = false → W = 0 ∧ T = 0 ∧ r = 50 := by
    intro h h'
    have hr0 := rErr_50 hs (by rw [← h0]; exact h) (by rw [← h1]; exact h')
    exact ⟨by rw [hW, sW, if_neg (by rw [hr0]; omega)], by rw [hT, sT, if_neg (by rw [hr0]; omega)], by rw [hr, hr0]⟩
  have KK : (b0 = true ∧ a0 = W ∧ t0 = T ∧ r = 0) ∨ (b0 = false ∧ b1 = true ∧ a1 = W ∧ t1 = T ∧ r = 0) ∨ (b0 = false ∧ b1 = false ∧ W = 0 ∧ T = 0 ∧ r = 50) := by
    cases b0
    · cases b1
      · exact .inr (.inr ⟨rfl, rfl, F2 rfl rfl⟩)
      · exact .inr (.inl ⟨rfl, rfl, (F1 rfl rfl).1.symm, (F1 rfl rfl).2.1.symm, (F1 rfl rfl).2.2⟩)
    · exact .inl ⟨rfl, (F0 rfl).1.symm, (F0 rfl).2.1.symm, (F0 rfl).2.2⟩
  have HC := Lib.hid CT; have H := Lib.hid h
  clear CT h hs hW hT h0 h1 hr ha0 ht0 ha1 ht1 F0 F1 F2
  rcases KK with ⟨rfl, rfl, rfl, rfl⟩ | ⟨rfl, rfl, rfl, rfl, rfl⟩ | ⟨rfl, rfl, rfl, rfl, rfl⟩
  all_goals
    go_enter Try.func103, Try.ntmps103
    go_upto_region 1 with (fail)
    refine wp_gen (fun Wv => Bx Wv (w.heap.size) (60) (#[.int .i64 0, .int .i64 0]) ∧ Bx Wv (w.heap.size + 1) (61) (#[.bool false, .bool false]) ∧ Below w.heap.size w Wv) ⟨(((Bx.at_ (by simp)).alloc _)), ((Bx.at_ (by simp))), (((Below.refl _ w).alloc (by simp <;> omega) _).alloc (by simp <;> omega) _)⟩ ?_
    rintro wa1 ⟨g2, g3, b⟩
    replace B := B.trans (b.mono B.size); clear b
    have c_g2 := g2.cell; have f_g2 := g2.free; have a_g2 := fun o => (g2.alloc o).cell; have d_g2 := fun o o2 => ((g2.alloc o).alloc o2).cell; have e_g2 := fun o => (g2.alloc o).free
    have c_g3 := g3.cell; have f_g3 := g3.free; have a_g3 := fun o => (g3.alloc o).cell; have d_g3 := fun o o2 => ((g3.alloc o).alloc o2).cell; have e_g3 := fun o => (g3.alloc o).free
    go_wp2_with fail
    refine (HC.out _ (H.out.below B)).mono ?_
    rintro e w' ⟨rfl, rfl⟩
    go_wp2_with fail
    refine (R0.out _ (H.out.below B)).mono ?_
    rintro e wa2 ⟨rfl, b⟩
    try clear c_g2 f_g2 a_g2 d_g2 e_g2
    replace g2 := g2.below b; have c_g2 := g2.cell; have f_g2 := g2.free; have a_g2 := fun o => (g2.alloc o).cell; have d_g2 := fun o o2 => ((g2.alloc o).alloc o2).cell; have e_g2 := fun o => (g2.alloc o).free; try clear c_g3 f_g3 a_g3 d_g3 e_g3
    replace g3 := g3.below b; have c_g3 := g3.cell; have f_g3 := g3.free; have a_g3 := fun o => (g3.alloc o).cell; have d_g3 := fun o o2 => ((g3.alloc o).alloc o2).cell; have e_g3 := fun o => (g3.alloc o).free; replace B := B.trans (b.mono B.size); clear b
    go_upto_region 4 with (fail)
    refine wp_gen (fun Wv => Bx Wv (wa2.heap.size) (60) (#[.int .i64 a0, .int .i64 t0]) ∧ Below wa2.heap.size wa2 Wv) ⟨((Bx.at_ (by simp))), ((Below.refl _ wa2).alloc (by simp <;> omega) _)⟩ ?_
    rintro wa3 ⟨g5, b⟩
    try clear c_g2 f_g2 a_g2 d_g2 e_g2
    replace g2 := g2.below b; have c_g2 := g2.cell; have f_g2 := g2.free; have a_g2 := fun o => (g2.alloc o).cell; have d_g2 := fun o o2 => ((g2.alloc o).alloc o2).cell; have e_g2 := fun o => (g2.alloc o).free; try clear c_g3 f_g3 a_g3 d_g3 e_g3
    replace g3 := g3.below b; have c_g3 := g3.cell; have f_g3 := g3.free; have a_g3 := fun o => (g3.alloc o).cell; have d_g3 := fun o o2 => ((g3.alloc o).alloc o2).cell; have e_g3 := fun o => (g3.alloc o).free; replace B := B.trans (b.mono B.size); clear b
    have c_g5 := g5.cell; have f_g5 := g5.free; have a_g5 := fun o => (g5.alloc o).cell; have d_g5 := fun o o2 => ((g5.alloc o).alloc o2).cell; have e_g5 := fun o => (g5.alloc o).free
    go_wp2_with fail
    refine (R1.out _ (H.out.below B)).mono ?_
    rintro e wa4 ⟨rfl, b⟩
    try clear c_g2 f_g2 a_g2 d_g2 e_g2
    replace g2 := g2.below b; have c_g2 := g2.cell; have f_g2 := g2.free; have a_g2 := fun o => (g2.alloc o).cell; have d_g2 := fun o o2 => ((g2.alloc o).alloc o2).cell; have e_g2 := fun o => (g2.alloc o).free; try clear c_g3 f_g3 a_g3 d_g3 e_g3
    replace g3 := g3.below b; have c_g3 := g3.cell; have f_g3 := g3.free; have a_g3 := fun o => (g3.alloc o).cell; have d_g3 := fun o o2 => ((g3.alloc o).alloc o2).cell; have e_g3 := fun o => (g3.alloc o).free; try clear c_g5 f_g5 a_g5 d_g5 e_g5
    replace g5 := g5.below b; have c_g5 := g5.cell; have f_g5 := g5.free; have a_g5 := fun o => (g5.alloc o).cell; have d_g5 := fun o o2 => ((g5.alloc o).alloc o2).cell; have e_g5 := fun o => (g5.alloc o).free; replace B := B.trans (b.mono B.size); clear b
    go_upto_region 5 with (fail)
    refine wp_gen (fun Wv => Bx Wv (wa4.heap.size) (60) (#[.int .i64 a1, .int .i64 t1]) ∧ Below wa4.heap.size wa4 Wv) ⟨((Bx.at_ (by simp))), ((Below.refl _ wa4).alloc (by simp <;> omega) _)⟩ ?_
    rintro wa5 ⟨g7, b⟩
    try clear c_g2 f_g2 a_g2 d_g2 e_g2
    replace g2 := g2.below b; have c_g2 := g2.cell; have f_g2 := g2.free; have a_g2 := fun o => (g2.alloc o).cell; have d_g2 := fun o o2 => ((g2.alloc o).alloc o2).cell; have e_g2 := fun o => (g2.alloc o).free; try clear c_g3 f_g3 a_g3 d_g3 e_g3
    replace g3 := g3.below b; have c_g3 := g3.cell; have f_g3 := g3.free; have a_g3 := fun o => (g3.alloc o).cell; have d_g3 := fun o o2 => ((g3.alloc o).alloc o2).cell; have e_g3 := fun o => (g3.alloc o).free; try clear c_g5 f_g5 a_g5 d_g5 e_g5
    replace g5 := g5.below b; have c_g5 := g5.cell; have f_g5 := g5.free; have a_g5 := fun o => (g5.alloc o).cell; have d_g5 := fun o o2 => ((g5.alloc o).alloc o2).cell; have e_g5 := fun o => (g5.alloc o).free; replace B := B.trans (b.mono B.size); clear b
    have c_g7 := g7.cell; have f_g7 := g7.free; have a_g7 := fun o => (g7.alloc o).cell; have d_g7 := fun o o2 => ((g7.alloc o).alloc o2).cell; have e_g7 := fun o => (g7.alloc o).free
    go_wp2
    refine bodyPost_ret (by simp [results, Try.results103, go_sem, c_g2, f_g2, a_g2, e_g2, c_g3, f_g3, a_g3, e_g3]) rfl ⟨rfl, ?_⟩
    (repeat (first | refine Below.setCell ?_ (by first | exact Nat.le_refl _ | (simp <;> omega)) _ | refine Below.alloc ?_ (by first | exact B.size | (have := B.size; simp <;> omega)) _)); exact B
end Go.Proofs.Ytbfmdbeeiicabaa
namespace Go.Proofs.Ytbfmdbeeiicabaa
open Go.RowKit L01 L02 L05 L06 L07 L13 L14 L15 L18 L19
set_option maxHeartbeats 1000000 in
theorem floatR19_any (x : UInt64) (b : Bool) (hb : b = decide (L20.FloatOk x)) (w : World) : Calls Try.prog 127 #[.int .u64 x.toNat] w fun e w' => e = .returned (.bool b) ∧ w = w' := by
  have HB := Lib.hid hb; clear hb
  go_enter Try.func127, Try.ntmps127
  go_wp2
  all_goals
    go_ret
    refine ⟨ret_bool ?_, rfl⟩
    rw [HB.out]
    rename_i hcase
    first
      | (rw [beq_iff_eq] at hcase; rw [eq_comm, decide_eq_true_iff]; unfold L20.FloatOk; omega)
      | (rw [beq_eq_false_iff_ne] at hcase; rw [Bool.eq_iff_iff, decide_eq_true_iff, decide_eq_true_iff]; unfold L20.FloatOk; omega)
set_option maxRecDepth 100000 in
theorem emptyR19_any (v : Value) (l : List UInt64) (a : Nat) (b : Bool) (hb : b = decide (Zr l a)) (ha : a + 8 ≤ l.length) (hl : l.length ≤ 1000000) (w : World) (h : Words w v l) :
    Calls Try.prog 104 #[v, .int .i64 a] w fun e w' => e = .returned (.bool b) ∧ w = w' := by
  have HB := Lib.hid hb; have HA := Lib.hid ha; have H := Lib.hid h
  have hal : a ≤ 1000000 := by omega
  clear hb ha hl h
  go_enter Try.func104, Try.ntmps104
  go_wp2
  go_loopg [5] 8 (fun g i wr => ∃ j : Nat, j ≤ 8 ∧ g = 8 - j ∧ i = .int .i64 j ∧ wr = w ∧ Hid (∀ i, i < j → l.getD (a + i) 0 = 0))
  case atStart => exact ⟨0, by omega, rfl, rfl, rfl, Lib.hid (fun i hi => by omega)⟩
  case round =>
    obtain ⟨j, hj, rfl, rfl, rfl, hz⟩ := hrel
    by_cases hlt : j < 8
    · have hwj : IntKind.i64.wrap ((a : Int) + (j : Int)) = (a : Int) + (j : Int) := IntWalk.i64_in _ (by omega)
      obtain ⟨ad, x, ia, m0, hx⟩ := H.out.atI (P := Try.prog) Try.underlying22 one_u64 (k := (a : Int) + (j : Int)) (by omega) (by have := HA.out; omega)
      have hgx : l.getD (a + j) 0 = x := by
        have := hx.out
        rw [show ((a : Int) + (j : Int)).toNat = a + j by omega] at this
        rw [List.getD_eq_getElem?_getD, this]; rfl
      by_cases hx0 : x = 0
      · have h0 : ((x.toNat : Int) != 0) = false := by rw [hx0]; rfl
        have HZ : Hid (∀ i, i < j + 1 → l.getD (a + i) 0 = 0) := Lib.hid (fun i hi => by
          by_cases e : i = j
          · subst e; rw [hgx, hx0]
          · exact hz.out i (by omega))
        clear hgx hx0 hx
        go_wp2
        go_roundg (8 - (j + 1))
        case measure => omega
        case rel => exact ⟨j + 1, by omega, rfl, by go_num, rfl, HZ⟩
      · have h0 : ((x.toNat : Int) != 0) = true := by rw [bne_iff_ne]; intro e; exact hx0 (UInt64.toNat.inj (by simp; omega))
        have hb : b = false := by rw [HB.out, decide_eq_false_iff_not]; exact fun h => hx0 (by rw [← hgx]; exact h j hlt)
        subst hb
        clear hgx hx0 hx
        go_wp2
        go_ret
        exact ⟨rfl, rfl⟩
    · obtain rfl : j = 8 := by omega
      have hb : b = true := by rw [HB.out, decide_eq_true_iff]; exact hz.out
      subst hb
      go_wp2
      go_ret
      exact ⟨rfl, rfl⟩
theorem sT_le {l : List UInt64} (h : rErr l = 0) : 0 ≤ sT l ∧ sT l ≤ 8 := by
  obtain ⟨_, h1⟩ := one_words h
  unfold SupOk at h1
  omega
theorem tab_tys {l : List UInt64} {n : Nat} (hs : SizeOk l.length) (hn : n ≤ 8) : tabT l n = tys l n ∧ (tabErr l n = 0 ↔ TysOk l n) := by
  have e : tabErr l n = if TysOk l n then 0 else 50 := by rw [tabErr, if_pos hs, if_pos ⟨by omega, by omega⟩, Int.toNat_natCast]
  rw [tabT, tys, e, Int.toNat_natCast]
  by_cases h : TysOk l n <;> simp [h]
set_option maxRecDepth 100000 in
set_option maxHeartbeats 1000000 in
theorem TypesR19_any (v : Value) (l : List UInt64) (hs : SizeOk l.length) (L : List (List UInt8)) (r : Bool) (hr : r = decide (rErr l = 0 ∧ tabErr l (sT l) = 0)) (hL : L = if r = true then T19 l else []) (w : World) (h : Words w v l) :
    Calls Try.prog 105 #[v] w fun e w' => ∃ x, e = .returned (.tuple #[x, .bool r]) ∧ OwnT w' w.heap.size x L ∧ Below w.heap.size w w' := by
  have B : Below w.heap.size w w := Below.refl _ _
  obtain ⟨sw, hsw⟩ : ∃ x, x = sW l := ⟨_, rfl⟩
  obtain ⟨st, hst⟩ : ∃ x, x = sT l := ⟨_, rfl⟩
  obtain ⟨i0, hi0⟩ : ∃ x, x = is0 l := ⟨_, rfl⟩
  obtain ⟨i1, hi1⟩ : ∃ x, x = is1 l := ⟨_, rfl⟩
  obtain ⟨r1, hr1⟩ : ∃ x, x = rErr l := ⟨_, rfl⟩
  have TT := Lib.hid (fun w h => TReadR_any v l sw st i0 i1 r1 hsw hst hi0 hi1 hr1 w h)
  have H := Lib.hid h
  by_cases h1 : r1 = 0
  case neg =>
    have hr0 : r = false := by rw [hr, decide_eq_false_iff_not, ← hr1]; exact fun h => h1 h.1
    have hL0 : L = [] := by rw [hL, hr0]; rfl
    have n1 : (r1 != 0) = true := by rw [bne_iff_ne]; exact h1
    subst hr0; subst hL0
    clear hr hL hsw hst hi0 hi1 hr1 h hs h1
    go_enter Try.func105, Try.ntmps105
    go_wp2_with fail
    refine (TT.out _ (H.out.below B)).mono ?_
    rintro e wa1 ⟨rfl, b⟩
    replace B := B.trans (b.mono B.size); clear b
    go_upto_region 2 with (fail)
    refine wp_gen (fun Wv => Bx Wv (wa1.heap.size) (60) (#[.int .i64 sw, .int .i64 st]) ∧ Bx Wv (wa1.heap.size + 1) (61) (#[.bool i0, .bool i1]) ∧ Below wa1.heap.size wa1 Wv) ⟨(((Bx.at_ (by simp)).alloc _)), ((Bx.at_ (by simp))), (((Below.refl _ wa1).alloc (by simp <;> omega) _).alloc (by simp <;> omega) _)⟩ ?_
    rintro wa2 ⟨g2, g3, b⟩
    replace B := B.trans (b.mono B.size); clear b
    have c_g2 := g2.cell; have f_g2 := g2.free; have a_g2 := fun o => (g2.alloc o).cell; have d_g2 := fun o o2 => ((g2.alloc o).alloc o2).cell; have e_g2 := fun o => (g2.alloc o).free
    have c_g3 := g3.cell; have f_g3 := g3.free; have a_g3 := fun o => (g3.alloc o).cell; have d_g3 := fun o o2 => ((g3.alloc o).alloc o2).cell; have e_g3 := fun o => (g3.alloc o).free
    go_wp2
    go_ret2
    exact ⟨_, rfl, OwnT.nil _ _, B⟩
  case pos =>
    subst h1
    obtain ⟨q1, q2⟩ := sT_le hr1.symm
    rw [← hst] at q1 q2
    obtain ⟨n, rfl⟩ := Int.eq_ofNat_of_zero_le q1
    have hn : n ≤ 8 := by omega
    obtain ⟨e1, e2⟩ := tab_tys hs hn
    have hre : r = decide (TysOk l n) := by
      rw [hr, ← hst, Bool.eq_iff_iff, decide_eq_true_iff, decide_eq_true_iff, e2]
      exact ⟨fun h => h.2, fun h => ⟨hr1.symm, h⟩⟩
    have hLe : L = tys l n := by
      rw [hL, T19, ← hst, e1, hre]
      by_cases h : TysOk l n
      · rw [if_pos (decide_eq_true h)]
      · rw [if_neg (by simpa using h), tys, if_neg h]
    have KT := Lib.hid (fun w h => TypesR_any v l n hn (by have := hs.1; omega) L r hLe hre w h)
    clear hr hL hsw hst hi0 hi1 hr1 h hs hre hLe e1 e2 q1 q2 hn
    go_enter Try.func105, Try.ntmps105
    go_wp2_with fail
    refine (TT.out _ (H.out.below B)).mono ?_
    rintro e wa1 ⟨rfl, b⟩
    replace B := B.trans (b.mono B.size); clear b
    go_upto_region 2 with (fail)
    refine wp_gen (fun Wv => Bx Wv (wa1.heap.size) (60) (#[.int .i64 sw, .int .i64 n]) ∧ Bx Wv (wa1.heap.size + 1) (61) (#[.bool i0, .bool i1]) ∧ Below wa1.heap.size wa1 Wv) ⟨(((Bx.at_ (by simp)).alloc _)), ((Bx.at_ (by simp))), (((Below.refl _ wa1).alloc (by simp <;> omega) _).alloc (by simp <;> omega) _)⟩ ?_
    rintro wa2 ⟨g2, g3, b⟩
    replace B := B.trans (b.mono B.size); clear b
    have c_g2 := g2.cell; have f_g2 := g2.free; have a_g2 := fun o => (g2.alloc o).cell; have d_g2 := fun o o2 => ((g2.alloc o).alloc o2).cell; have e_g2 := fun o => (g2.alloc o).free
    have c_g3 := g3.cell; have f_g3 := g3.free; have a_g3 := fun o => (g3.alloc o).cell; have d_g3 := fun o o2 => ((g3.alloc o).alloc o2).cell; have e_g3 := fun o => (g3.alloc o).free
    have hB1 := B.size
    go_wp2_with fail
    refine (KT.out _ (H.out.below B)).mono ?_
    rintro e wa3 ⟨xt, rfl, ot, b⟩
    try clear c_g2 f_g2 a_g2 d_g2 e_g2
    replace g2 := g2.below b; have c_g2 := g2.cell; have f_g2 := g2.free; have a_g2 := fun o => (g2.alloc o).cell; have d_g2 := fun o o2 => ((g2.alloc o).alloc o2).cell; have e_g2 := fun o => (g2.alloc o).free; try clear c_g3 f_g3 a_g3 d_g3 e_g3
    replace g3 := g3.below b; have c_g3 := g3.cell; have f_g3 := g3.free; have a_g3 := fun o => (g3.alloc o).cell; have d_g3 := fun o o2 => ((g3.alloc o).alloc o2).cell; have e_g3 := fun o => (g3.alloc o).free; replace B := B.trans (b.mono B.size); clear b
    go_wp2
    go_ret2
    exact ⟨_, rfl, ot.up hB1, B⟩
set_option maxRecDepth 100000 in
set_option maxHeartbeats 1000000 in
theorem objsR_any (v : Value) (L : List Hb) (O : List Hb) (hO : O = objs L) (w : World) (h : Blks w v L) (hl : L.length ≤ 1000000) :
    Calls Try.prog 106 #[v] w fun e w' => ∃ x, e = .returned x ∧ OwnK w' w.heap.size x O ∧ Below w.heap.size w w' := by
  have B : Below w.heap.size w w := Below.refl _ _
  have H := Lib.hid h; have HO := Lib.hid hO
  have lx := h.len
  obtain ⟨N, hN⟩ : ∃ N, N = L.length := ⟨_, rfl⟩
  rw [← hN] at lx hl
  have HN := Lib.hid hN
  clear h hO hN
  go_enter Try.func106, Try.ntmps106
  go_wp2
  have HB := Lib.hid B
  go_loopg [3, 4] N (fun g xv i wr => ∃ j : Nat, j ≤ N ∧ g = N - j ∧ i = .int .i64 j ∧ Hid (OwnK wr w.heap.size xv (objs (L.take j)) ∧ Below w.heap.size w wr))
  case atStart => exact ⟨0, by omega, by omega, rfl, Lib.hid ⟨by rw [List.take_zero]; exact OwnK.nil _ _, HB.out⟩⟩
  case round =>
    obtain ⟨j, hj, rfl, rfl, hh⟩ := hrel
    clear HB B
    have o1 := hh.out.1
    have B := hh.out.2
    by_cases hlt : j < N
    · have hB0 := B.size
      obtain ⟨bb, oo, b, ia, m0, m1, m2, m3, m4, m5, hb, _⟩ := (Blks.below H.out B).at_ (k := j) (by rw [← HN.out]; exact hlt)
      have htk : L.take (j + 1) = L.take j ++ [b] := by rw [List.take_add_one, hb.out]; rfl
      have hsn := objs_snoc (L := L.take j) (b := b)
      rw [← htk] at hsn
      by_cases hk : b.kind = 1
      · rw [if_pos hk] at hsn
        have k1 : (b.kind == 1) = true := by rw [beq_iff_eq]; exact hk
        have HS := Lib.hid hsn
        have hol : (objs (L.take j)).length ≤ j := Nat.le_trans (List.length_filter_le _ _) (by rw [List.length_take]; omega)
        clear hsn htk hk
        have hne := own_fresh o1
        go_wp2_with (at_builtin; refine wpList_append (by rfl) rfl rfl rfl Try.underlying26 info_block rfl (by omega) (by exact own_below o1 ((Below.refl _ _).alloc (Nat.le_refl _) _)) (by exact lit_block b (by simp)) (bkL_one b) (by omega) (by omega) (by exact B.alloc B.size _) (Nat.le_refl _) ?_; intro v1 w3 o3 B3 g3)
        have o4 : OwnK w3 w.heap.size v1 (objs (L.take (j + 1))) := by rw [HS.out]; exact OwnK.of o3 (tabB_snoc _ b)
        have HZ := Lib.hid (And.intro o4 B3)
        go_roundg (N - (j + 1))
        case measure => omega
        case rel => exact ⟨j + 1, by omega, rfl, by go_num, HZ⟩
      · rw [if_neg hk, List.append_nil] at hsn
        have k1 : (b.kind == 1) = false := by rw [beq_eq_false_iff_ne]; exact hk
        have HZ := hh
        rw [← hsn] at HZ
        clear hsn htk hk
        go_wp2
        go_roundg (N - (j + 1))
        case measure => omega
        case rel => exact ⟨j + 1, by omega, rfl, by go_num, HZ⟩
    · obtain rfl : j = N := by omega
      have e : objs (L.take j) = O := by rw [HO.out, HN.out, List.take_length]
      rw [e] at o1
      clear e
      go_wp2
      go_ret
      exact ⟨_, rfl, o1, B⟩
/-- the number of the block at an address, or -1 -/
def idxI (O : List Hb) (a : Int) : Int := match idx O a with | some i => (i : Int) | none => -1
theorem idx_first : ∀ {O : List Hb} {a : Int} {j : Nat} {b : Hb}, O[j]? = some b → b.at_ = a → (∀ i c, i < j → O[i]? = some c → c.at_ ≠ a) → idx O a = some j
  | [], _, _, _, h, _, _ => by cases h
  | c :: O, a, 0, b, h, e, _ => by
    simp at h; subst h
    rw [idx, if_pos e]
  | c :: O, a, j + 1, b, h, e, hn => by
    rw [idx, if_neg (hn 0 c (by omega) rfl), idx_first (by simpa using h) e (fun i d hi hd => hn (i + 1) d (by omega) (by simpa using hd))]; rfl
theorem idxI_neg {O : List Hb} {a : Int} : idxI O a < 0 ↔ ¬ IsObj O a := by
  rw [← idx_none]
  unfold idxI
  cases h : idx O a with
  | none => simp
  | some i => simp
set_option maxRecDepth 100000 in
set_option maxHeartbeats 1000000 in
theorem idxR_any (v : Value) (O : List Hb) (a : UInt64) (r : Int) (hr : r = idxI O a.toNat) (hO : ∀ b ∈ O, 0 ≤ b.at_ ∧ b.at_ ≤ 1000000) (hl : O.length ≤ 1000000) (w : World) (h : Blks w v O) :
    Calls Try.prog 108 #[v, .int .u64 a.toNat] w fun e w' => e = .returned (.int .i64 r) ∧ w = w' := by
  have H := Lib.hid h; have HO := Lib.hid hO; have HR := Lib.hid hr
  have lx := h.len
  obtain ⟨N, hN⟩ : ∃ N, N = O.length := ⟨_, rfl⟩
  rw [← hN] at lx hl
  have HN := Lib.hid hN
  clear h hO hN hr
  go_enter Try.func108, Try.ntmps108
  go_wp2
  go_loopg [5] N (fun g i wr => ∃ j : Nat, j ≤ N ∧ g = N - j ∧ i = .int .i64 j ∧ wr = w ∧ Hid (∀ i c, i < j → O[i]? = some c → c.at_ ≠ (a.toNat : Int)))
  case atStart => exact ⟨0, by omega, by omega, rfl, rfl, Lib.hid (fun i c hi => by omega)⟩
  case round =>
    obtain ⟨j, hj, rfl, rfl, rfl, hz⟩ := hrel
    by_cases hlt : j < N
    · obtain ⟨bb, oo, b, ia, m0, m1, m2, m3, m4, m5, hb, _⟩ := H.out.at_ (k := j) (by rw [← HN.out]; exact hlt)
      obtain ⟨z1, z2⟩ := HO.out b (List.mem_of_getElem? hb.out)
      have hwb : IntKind.u64.wrap b.at_ = b.at_ := by rw [wrap_u64]; omega
      by_cases he : b.at_ = (a.toNat : Int)
      · have k1 : (b.at_ == (a.toNat : Int)) = true := by rw [beq_iff_eq]; exact he
        have hr : r = (j : Int) := by rw [HR.out, idxI, idx_first hb.out he hz.out]
        subst hr
        clear he z1 z2
        go_wp2
        go_ret
        exact ⟨rfl, rfl⟩
      · have k1 : (b.at_ == (a.toNat : Int)) = false := by rw [beq_eq_false_iff_ne]; exact he
        have HZ : Hid (∀ i c, i < j + 1 → O[i]? = some c → c.at_ ≠ (a.toNat : Int)) := Lib.hid (fun i c hi hc => by
          by_cases e : i = j
          · subst e; rw [hb.out] at hc; injection hc with hc; subst hc; exact he
          · exact hz.out i c (by omega) hc)
        clear he z1 z2
        go_wp2
        go_roundg (N - (j + 1))
        case measure => omega
        case rel => exact ⟨j + 1, by omega, rfl, by go_num, rfl, HZ⟩
    · obtain rfl : j = N := by omega
      have hr : r = -1 := by
        rw [HR.out, idxI]
        have : idx O (a.toNat : Int) = none := idx_none.2 (fun ⟨b, hb, e⟩ => by
          obtain ⟨i, hi⟩ := List.getElem?_of_mem hb
          exact hz.out i b (by rw [HN.out]; exact (List.getElem?_eq_some_iff.1 hi).1) hi e)
        rw [this]
      subst hr
      go_wp2
      go_ret
      exact ⟨rfl, rfl⟩
end Go.Proofs.Ytbfmdbeeiicabaa
namespace Go.Proofs.Ytbfmdbeeiicabaa
open Go.RowKit L01 L02 L05 L06 L07 L13 L14 L15 L18 L19
set_option maxRecDepth 100000 in
set_option maxHeartbeats 1000000 in
theorem wrong7 (v tv bv : Value) (b : Hb) (c : Bool) (hc : c = decide (¬ Idle b)) (w : World) :
    Calls Try.prog 107 #[v, tv, bv, .agg #[.int .i64 b.at_, .int .i64 b.size, .int .i64 b.kind, .int .i64 b.ty, .bool b.mark, .int .u64 b.next.toNat], .int .i64 7] w fun e w' => e = .returned (.bool c) ∧ Below w.heap.size w w' := by
  have B : Below w.heap.size w w := Below.refl _ _
  have HC := Lib.hid hc; clear hc
  obtain ⟨at_, size, kind, ty, mark, next⟩ := b
  dsimp only at *
  have hn0 : (decide ((0 : Int) < (next.toNat : Int))) = decide (¬ next = 0) := by
    rw [Bool.eq_iff_iff, decide_eq_true_iff, decide_eq_true_iff]
    exact ⟨fun h e => by rw [e] at h; simp at h, fun h => by
      have : next.toNat ≠ 0 := fun e => h (UInt64.toNat.inj (by simpa using e))
      omega⟩
  obtain ⟨q, hq⟩ : ∃ q, q = decide (¬ next = 0) := ⟨_, rfl⟩
  rw [← hq] at hn0
  have hn1 : (decide ((0 : Nat) < next.toNat)) = q := by rw [← hn0, Bool.eq_iff_iff, decide_eq_true_iff, decide_eq_true_iff]; omega
  have hc : c = (mark || q) := by rw [HC.out, hq]; unfold Idle; cases mark <;> simp
  clear HC hq
  cases mark
  all_goals
    go_enter Try.func107, Try.ntmps107
    go_upto_region 1 with (fail)
    refine wp_gen (fun Wv => Bx Wv (w.heap.size) (38) (#[.int .i64 at_, .int .i64 size, .int .i64 kind, .int .i64 ty, .bool _, .int .u64 next.toNat]) ∧ Below w.heap.size w Wv) ⟨((Bx.at_ (by simp))), ((Below.refl _ w).alloc (by simp <;> omega) _)⟩ ?_
    rintro wa1 ⟨g2, b⟩
    replace B := B.trans (b.mono B.size); clear b
    have c_g2 := g2.cell; have f_g2 := g2.free; have a_g2 := fun o => (g2.alloc o).cell; have d_g2 := fun o o2 => ((g2.alloc o).alloc o2).cell; have e_g2 := fun o => (g2.alloc o).free
    go_wp2
    go_ret
    exact ⟨by rw [hc]; simp_all, B⟩
set_option maxRecDepth 100000 in
set_option maxHeartbeats 1000000 in
theorem wrong8 (v tv bv : Value) (T : List (List UInt8)) (b : Hb) (c : Bool) (hc : c = decide (¬ Typed T b)) (h0 : 0 ≤ b.ty) (hT : ∀ t ∈ T, kErr t = 0) (w : World) (h : Typs w tv T) :
    Calls Try.prog 107 #[v, tv, bv, .agg #[.int .i64 b.at_, .int .i64 b.size, .int .i64 b.kind, .int .i64 b.ty, .bool b.mark, .int .u64 b.next.toNat], .int .i64 8] w fun e w' => e = .returned (.bool c) ∧ Below w.heap.size w w' := by
  have B : Below w.heap.size w w := Below.refl _ _
  have lt := h.len
  obtain ⟨NT, hNT⟩ : ∃ N, N = T.length := ⟨_, rfl⟩
  rw [← hNT] at lt
  by_cases hlt : b.ty < T.length
  · obtain ⟨q, hq⟩ := Int.eq_ofNat_of_zero_le h0
    obtain ⟨at_, size, kind, ty, mark, next⟩ := b
    dsimp only at *
    subst hq
    have hqT : q < T.length := by omega
    obtain ⟨ad, x, t, it, m0, ht, hx⟩ := h.at_ (k := q) hqT
    have hk : kErr t = 0 := hT t (List.mem_of_getElem? ht.out)
    have hk8 := kErr_len hk
    obtain ⟨tn, htn⟩ : ∃ n, n = t.length := ⟨_, rfl⟩
    have lx := Rd.len hx.out Try.underlying44
    rw [← htn] at lx hk8
    obtain ⟨n, hn⟩ : ∃ n : Int, n = (tn : Int) + (tn : Int) % 2 + 2 := ⟨_, rfl⟩
    have KT := Lib.hid (fun w => WordsR_any (tn : Int) n (by omega) hn w)
    have hck : (n != size) = c := by
      rw [hc, Bool.eq_iff_iff, bne_iff_ne, decide_eq_true_iff]
      unfold Typed kindsB
      rw [Int.toNat_natCast, List.getD_eq_getElem?_getD, ht.out]
      simp only [Option.getD_some]
      rw [← htn]
      omega
    have n1 : decide ((NT : Int) ≤ (q : Int)) = false := decide_eq_false (by omega)
    have n2 : decide (NT ≤ q) = false := decide_eq_false (by omega)
    have n3 : ¬ (NT : Int) ≤ (q : Int) := by omega
    clear hc hT hk hn ht hx hlt hqT h0 hNT h htn
    go_enter Try.func107, Try.ntmps107
    go_upto_region 1 with (fail)
    refine wp_gen (fun Wv => Bx Wv (w.heap.size) (38) (#[.int .i64 at_, .int .i64 size, .int .i64 kind, .int .i64 q, .bool mark, .int .u64 next.toNat]) ∧ Below w.heap.size w Wv) ⟨((Bx.at_ (by simp))), ((Below.refl _ w).alloc (by simp <;> omega) _)⟩ ?_
    rintro wa1 ⟨g2, b⟩
    replace m0 := cell_later b m0; replace B := B.trans (b.mono B.size); clear b
    have c_g2 := g2.cell; have f_g2 := g2.free; have a_g2 := fun o => (g2.alloc o).cell; have d_g2 := fun o o2 => ((g2.alloc o).alloc o2).cell; have e_g2 := fun o => (g2.alloc o).free
    go_upto_region 4 with (fail)
    refine wp_region_calm (by kernel_rfl) (by kernel_rfl) ?_
    try clear c_g2 f_g2 a_g2 d_g2 e_g2
    have c_g2 := fun x : Fut _ => (g2.below x.h).cell
    have c_m0 := fun x : Fut _ => cell_later x.h m0
    repeat (go_big_quiet_step (exact Fut.same (KT.out _)))
    refine wpQuiet_nil ?_
    intro _ hw'
    obtain ⟨xq, hw''⟩ := hw'
    subst hw''
    clear c_m0; replace m0 := cell_later xq.h m0
    clear c_g2; replace g2 := g2.below xq.h; have c_g2 := g2.cell; have f_g2 := g2.free; have a_g2 := fun o => (g2.alloc o).cell; have d_g2 := fun o o2 => ((g2.alloc o).alloc o2).cell; have e_g2 := fun o => (g2.alloc o).free
    replace B := B.trans (xq.h.mono B.size)
    go_wp2
    go_ret
    exact ⟨rfl, B⟩
  · have hc0 : c = true := by rw [hc, decide_eq_true_iff]; exact fun h => hlt h.1
    obtain ⟨at_, size, kind, ty, mark, next⟩ := b
    dsimp only at *
    have n1 : decide ((NT : Int) ≤ ty) = true := decide_eq_true (by omega)
    have n3 : (NT : Int) ≤ ty := by omega
    subst hc0
    clear hc hT hlt hNT h
    go_enter Try.func107, Try.ntmps107
    go_upto_region 1 with (fail)
    refine wp_gen (fun Wv => Bx Wv (w.heap.size) (38) (#[.int .i64 at_, .int .i64 size, .int .i64 kind, .int .i64 ty, .bool mark, .int .u64 next.toNat]) ∧ Below w.heap.size w Wv) ⟨((Bx.at_ (by simp))), ((Below.refl _ w).alloc (by simp <;> omega) _)⟩ ?_
    rintro wa1 ⟨g2, b⟩
    replace B := B.trans (b.mono B.size); clear b
    have c_g2 := g2.cell; have f_g2 := g2.free; have a_g2 := fun o => (g2.alloc o).cell; have d_g2 := fun o o2 => ((g2.alloc o).alloc o2).cell; have e_g2 := fun o => (g2.alloc o).free
    go_upto_region 4 with (fail)
    refine wp_region_calm (by kernel_rfl) (by kernel_rfl) ?_
    try clear c_g2 f_g2 a_g2 d_g2 e_g2
    have c_g2 := fun x : Fut _ => (g2.below x.h).cell
    repeat (go_big_quiet_step (fail))
    refine wpQuiet_nil ?_
    intro _ hw'
    obtain ⟨xq, hw''⟩ := hw'
    subst hw''
    clear c_g2; replace g2 := g2.below xq.h; have c_g2 := g2.cell; have f_g2 := g2.free; have a_g2 := fun o => (g2.alloc o).cell; have d_g2 := fun o o2 => ((g2.alloc o).alloc o2).cell; have e_g2 := fun o => (g2.alloc o).free
    replace B := B.trans (xq.h.mono B.size)
    go_wp2
    go_ret
    exact ⟨rfl, B⟩
set_option maxRecDepth 100000 in
set_option maxHeartbeats 1000000 in
theorem wrong9 (v tv bv : Value) (l : List UInt64) (T : List (List UInt8)) (b : Hb) (c : Bool) (hc : c = decide (¬ Padded l T b)) (hi : In19 l b) (hty : Typed T b) (hl : l.length ≤ 1000000) (w : World) (hw : Words w v l) (h : Typs w tv T) :
    Calls Try.prog 107 #[v, tv, bv, .agg #[.int .i64 b.at_, .int .i64 b.size, .int .i64 b.kind, .int .i64 b.ty, .bool b.mark, .int .u64 b.next.toNat], .int .i64 9] w fun e w' => e = .returned (.bool c) ∧ Below w.heap.size w w' := by
  have B : Below w.heap.size w w := Below.refl _ _
  obtain ⟨a, q, t, ha, hq, hT, hk, _, hle, hodd⟩ := in_kinds hi hty
  obtain ⟨ad, x, t', it, m0, ht', hx⟩ := h.at_ (k := q) (List.getElem?_eq_some_iff.1 hT).1
  obtain rfl : t' = t := by have := ht'.out; rw [hT] at this; injection this with this; exact this.symm
  obtain ⟨n, hn⟩ : ∃ n, n = t'.length := ⟨_, rfl⟩
  have lx := Rd.len hx.out Try.underlying44
  rw [← hn] at lx hle hodd
  have hcp : c = decide (¬ (n % 2 = 0 ∨ fw l b n = 0)) := by rw [hc, Bool.eq_iff_iff, decide_eq_true_iff, decide_eq_true_iff]; unfold Padded; rw [hk, ← hn]
  have hsz := hty.2
  rw [hk, ← hn] at hsz
  obtain ⟨at_, size, kind, ty, mark, next⟩ := b
  dsimp only at ha hq hsz
  subst ha; subst hq
  have hfw : fw l ⟨(a : Int), size, kind, (q : Int), mark, next⟩ n = l.getD (a + 2 + n) 0 := by unfold fw; rw [Int.toNat_natCast]
  rw [hfw] at hcp
  have hw1 : IntKind.i64.wrap ((a : Int) + 2) = (a : Int) + 2 := IntWalk.i64_in _ (by omega)
  have hw2 : IntKind.i64.wrap ((a : Int) + 2 + (n : Int)) = (a : Int) + 2 + (n : Int) := IntWalk.i64_in _ (by omega)
  have hw3 : IntKind.i64.wrap (size - 2) = size - 2 := IntWalk.i64_in _ (by omega)
  by_cases hev : n % 2 = 0
  · have hc1 : c = false := by rw [hcp, decide_eq_false_iff_not]; exact fun h => h (.inl hev)
    have n1 : decide ((n : Int) < size - 2) = false := decide_eq_false (by omega)
    have n2 : ¬ (n : Int) < size - 2 := by omega
    subst hc1
    clear hc hi hty hT hk hle hodd ht' hx hcp hfw hn hw h hsz hev
    go_enter Try.func107, Try.ntmps107
    go_upto_region 1 with (fail)
    refine wp_gen (fun Wv => Bx Wv (w.heap.size) (38) (#[.int .i64 a, .int .i64 size, .int .i64 kind, .int .i64 q, .bool mark, .int .u64 next.toNat]) ∧ Below w.heap.size w Wv) ⟨((Bx.at_ (by simp))), ((Below.refl _ w).alloc (by simp <;> omega) _)⟩ ?_
    rintro wa1 ⟨g2, b⟩
    replace m0 := cell_later b m0; replace B := B.trans (b.mono B.size); clear b
    have c_g2 := g2.cell; have f_g2 := g2.free; have a_g2 := fun o => (g2.alloc o).cell; have d_g2 := fun o o2 => ((g2.alloc o).alloc o2).cell; have e_g2 := fun o => (g2.alloc o).free
    go_wp2
    go_ret
    exact ⟨rfl, B⟩
  · have n1 : decide ((n : Int) < size - 2) = true := decide_eq_true (by omega)
    have n2 : (n : Int) < size - 2 := by omega
    obtain ⟨ad2, y, iy, m1, hy⟩ := hw.at_ (P := Try.prog) Try.underlying22 one_u64 (k := a + 2 + n) (hodd (by omega))
    have iy2 : ∀ W, (Instr.indexAt 22 v (.int .i64 ((a : Int) + 2 + (n : Int)))).run Try.prog W = .ok (.pointer (some ad2)) W := iy
    have hgy : l.getD (a + 2 + n) 0 = y := by rw [List.getD_eq_getElem?_getD, hy.out]; rfl
    have hc1 : c = decide (¬ y = 0) := by rw [hcp, hgy]; simp [hev]
    have hy0 : ((y.toNat : Int) != 0) = c := by
      rw [hc1, Bool.eq_iff_iff, bne_iff_ne, decide_eq_true_iff]
      exact ⟨fun h e => h (by rw [e]; rfl), fun h e => h (UInt64.toNat.inj (by simp; omega))⟩
    clear hc hi hty hT hk hle hodd ht' hx hcp hfw hn hw h hgy hc1 hy hsz hev iy
    go_enter Try.func107, Try.ntmps107
    go_upto_region 1 with (fail)
    refine wp_gen (fun Wv => Bx Wv (w.heap.size) (38) (#[.int .i64 a, .int .i64 size, .int .i64 kind, .int .i64 q, .bool mark, .int .u64 next.toNat]) ∧ Below w.heap.size w Wv) ⟨((Bx.at_ (by simp))), ((Below.refl _ w).alloc (by simp <;> omega) _)⟩ ?_
    rintro wa1 ⟨g2, b⟩
    replace m0 := cell_later b m0; replace m1 := cell_later b m1; replace B := B.trans (b.mono B.size); clear b
    have c_g2 := g2.cell; have f_g2 := g2.free; have a_g2 := fun o => (g2.alloc o).cell; have d_g2 := fun o o2 => ((g2.alloc o).alloc o2).cell; have e_g2 := fun o => (g2.alloc o).free
    go_wp2
    go_ret
    exact ⟨rfl, B⟩
end Go.Proofs.Ytbfmdbeeiicabaa
namespace Go.Proofs.Ytbfmdbeeiicabaa
open Go.RowKit L01 L02 L05 L06 L07 L13 L14 L15 L18 L19
set_option maxRecDepth 100000 in
set_option maxHeartbeats 2000000 in
theorem wrong10 (v tv bv : Value) (l : List UInt64) (T : List (List UInt8)) (b : Hb) (c : Bool) (hc : c = decide (¬ FloatsB l T b)) (hi : In19 l b) (hty : Typed T b) (hl : l.length ≤ 1000000) (w : World) (hw : Words w v l) (h : Typs w tv T) :
    Calls Try.prog 107 #[v, tv, bv, .agg #[.int .i64 b.at_, .int .i64 b.size, .int .i64 b.kind, .int .i64 b.ty, .bool b.mark, .int .u64 b.next.toNat], .int .i64 10] w fun e w' => e = .returned (.bool c) ∧ Below w.heap.size w w' := by
  have B : Below w.heap.size w w := Below.refl _ _
  obtain ⟨a, q, t, ha, hq, hT, hk, _, hle, _⟩ := in_kinds hi hty
  obtain ⟨ad, x, t', it, m0, ht', hx⟩ := h.at_ (k := q) (List.getElem?_eq_some_iff.1 hT).1
  obtain rfl : t' = t := by have := ht'.out; rw [hT] at this; injection this with this; exact this.symm
  obtain ⟨n, hn⟩ : ∃ n, n = t'.length := ⟨_, rfl⟩
  have lx := Rd.len hx.out Try.underlying44
  rw [← hn] at lx hle
  have hcp : c = decide (¬ ∀ i, i < n → (t'.getD i 0).toNat = 2 → L20.FloatOk (fw l b i)) := by rw [hc, Bool.eq_iff_iff, decide_eq_true_iff, decide_eq_true_iff]; unfold FloatsB; rw [hk, ← hn]
  obtain ⟨at_, size, kind, ty, mark, next⟩ := b
  dsimp only at ha hq
  subst ha; subst hq
  have hfw : ∀ i, fw l ⟨(a : Int), size, kind, (q : Int), mark, next⟩ i = l.getD (a + 2 + i) 0 := fun i => by unfold fw; rw [Int.toNat_natCast]
  have HC := Lib.hid (And.intro hcp hfw)
  have hw1 : IntKind.i64.wrap ((a : Int) + 2) = (a : Int) + 2 := IntWalk.i64_in _ (by omega)
  have HH := Lib.hid hn; have HX := hx; have HW := Lib.hid hw
  have HN := Lib.hid (And.intro hle hl)
  have hnb : n ≤ 1000000 := by omega
  clear hc hi hty hT hk hle ht' hx hcp hfw hn hw h hl
  go_enter Try.func107, Try.ntmps107
  go_upto_region 1 with (fail)
  refine wp_gen (fun Wv => Bx Wv (w.heap.size) (38) (#[.int .i64 a, .int .i64 size, .int .i64 kind, .int .i64 q, .bool mark, .int .u64 next.toNat]) ∧ Below w.heap.size w Wv) ⟨((Bx.at_ (by simp))), ((Below.refl _ w).alloc (by simp <;> omega) _)⟩ ?_
  rintro wa1 ⟨g2, b⟩
  replace m0 := cell_later b m0; replace B := B.trans (b.mono B.size); clear b
  have c_g2 := g2.cell; have f_g2 := g2.free; have a_g2 := fun o => (g2.alloc o).cell; have d_g2 := fun o o2 => ((g2.alloc o).alloc o2).cell; have e_g2 := fun o => (g2.alloc o).free
  go_wp2
  go_loopg [12] n (fun gg i wr => ∃ j : Nat, j ≤ n ∧ gg = n - j ∧ i = .int .i64 j ∧ Hid (wr = wa1) ∧ Hid (∀ i, i < j → (t'.getD i 0).toNat = 2 → L20.FloatOk (l.getD (a + 2 + i) 0)))
  case atStart => exact ⟨0, by omega, rfl, rfl, Lib.hid rfl, Lib.hid (fun i hi => by omega)⟩
  case round =>
    obtain ⟨j, hj, rfl, rfl, hh, hz⟩ := hrel
    obtain rfl := hh.out
    by_cases hlt : j < n
    · obtain ⟨ak, kd, ik, mk, hkd⟩ := (Byts.below HX.out B).at_ (P := Try.prog) Try.underlying44 one_u8 (k := j) (by rw [← HH.out]; exact hlt)
      have hgk : t'.getD j 0 = kd := by rw [List.getD_eq_getElem?_getD, hkd.out]; rfl
      obtain ⟨ad2, y, iy, m2, hy⟩ := (HW.out.below B).at_ (P := Try.prog) Try.underlying22 one_u64 (k := a + 2 + j) (by have := HN.out.1; omega)
      have iy2 : ∀ W, (Instr.indexAt 22 v (.int .i64 ((a : Int) + 2 + (j : Int)))).run Try.prog W = .ok (.pointer (some ad2)) W := iy
      have hgy : l.getD (a + 2 + j) 0 = y := by rw [List.getD_eq_getElem?_getD, hy.out]; rfl
      have hw2 : IntKind.i64.wrap ((a : Int) + 2 + (j : Int)) = (a : Int) + 2 + (j : Int) := IntWalk.i64_in _ (by have := HN.out; omega)
      by_cases hk2 : kd.toNat = 2
      · have hk3 : ((kd.toNat : Int) == 2) = true := by rw [beq_iff_eq]; omega
        obtain ⟨fb, hfb⟩ : ∃ fb, fb = decide (L20.FloatOk y) := ⟨_, rfl⟩
        have FT := Lib.hid (fun w => floatR19_any y fb hfb w)
        cases fb
        · have hno : ¬ L20.FloatOk y := of_decide_eq_false hfb.symm
          have hc0 : c = true := by
            rw [HC.out.1, decide_eq_true_iff]
            intro hall
            have := hall j hlt (by rw [hgk]; exact hk2)
            rw [HC.out.2, hgy] at this
            exact hno this
          subst hc0
          clear hfb hno hgy hy hgk hk2 hkd iy
          go_wp2_with fail
          refine (FT.out _).mono ?_
          rintro e w' ⟨rfl, rfl⟩
          go_wp2
          go_ret
          exact ⟨rfl, B⟩
        · have hyes : L20.FloatOk y := of_decide_eq_true hfb.symm
          have HZ : Hid (∀ i, i < j + 1 → (t'.getD i 0).toNat = 2 → L20.FloatOk (l.getD (a + 2 + i) 0)) := Lib.hid (fun i hi h2 => by
            by_cases e : i = j
            · subst e; rw [hgy]; exact hyes
            · exact hz.out i (by omega) h2)
          clear hfb hyes hgy hy hgk hk2 hkd iy
          go_wp2_with fail
          refine (FT.out _).mono ?_
          rintro e w' ⟨rfl, rfl⟩
          go_wp2
          go_roundg (n - (j + 1))
          case measure => omega
          case rel => exact ⟨j + 1, by omega, rfl, by go_num, Lib.hid rfl, HZ⟩
      · have hk3 : ((kd.toNat : Int) == 2) = false := by rw [beq_eq_false_iff_ne]; omega
        have HZ : Hid (∀ i, i < j + 1 → (t'.getD i 0).toNat = 2 → L20.FloatOk (l.getD (a + 2 + i) 0)) := Lib.hid (fun i hi h2 => by
          by_cases e : i = j
          · subst e; rw [hgk] at h2; exact absurd h2 hk2
          · exact hz.out i (by omega) h2)
        clear hgk hk2 hkd hgy hy iy
        go_wp2
        go_roundg (n - (j + 1))
        case measure => omega
        case rel => exact ⟨j + 1, by omega, rfl, by go_num, Lib.hid rfl, HZ⟩
    · obtain rfl : j = n := by omega
      have hc1 : c = false := by rw [HC.out.1, decide_eq_false_iff_not]; exact fun hh => hh (by intro i hi h2; rw [HC.out.2]; exact hz.out i hi h2)
      subst hc1
      go_wp2
      go_ret
      exact ⟨rfl, B⟩
set_option maxRecDepth 100000 in
set_option maxHeartbeats 2000000 in
theorem wrong11 (v tv bv : Value) (l : List UInt64) (T : List (List UInt8)) (O : List Hb) (b : Hb) (c : Bool) (hc : c = decide (¬ RefsB l T O b)) (hi : In19 l b) (hty : Typed T b) (hl : l.length ≤ 1000000) (hO : ∀ b ∈ O, 0 ≤ b.at_ ∧ b.at_ ≤ 1000000) (hOl : O.length ≤ 1000000) (w : World) (hw : Words w v l) (h : Typs w tv T) (hb : Blks w bv O) :
    Calls Try.prog 107 #[v, tv, bv, .agg #[.int .i64 b.at_, .int .i64 b.size, .int .i64 b.kind, .int .i64 b.ty, .bool b.mark, .int .u64 b.next.toNat], .int .i64 11] w fun e w' => e = .returned (.bool c) ∧ Below w.heap.size w w' := by
  have B : Below w.heap.size w w := Below.refl _ _
  obtain ⟨a, q, t, ha, hq, hT, hk, _, hle, _⟩ := in_kinds hi hty
  obtain ⟨ad, x, t', it, m0, ht', hx⟩ := h.at_ (k := q) (List.getElem?_eq_some_iff.1 hT).1
  obtain rfl : t' = t := by have := ht'.out; rw [hT] at this; injection this with this; exact this.symm
  obtain ⟨n, hn⟩ : ∃ n, n = t'.length := ⟨_, rfl⟩
  have lx := Rd.len hx.out Try.underlying44
  rw [← hn] at lx hle
  have hcp : c = decide (¬ ∀ i, i < n → (t'.getD i 0).toNat = 3 → (fw l b i = 0 ∨ IsObj O (fw l b i).toNat)) := by rw [hc, Bool.eq_iff_iff, decide_eq_true_iff, decide_eq_true_iff]; unfold RefsB; rw [hk, ← hn]
  obtain ⟨at_, size, kind, ty, mark, next⟩ := b
  dsimp only at ha hq
  subst ha; subst hq
  have hfw : ∀ i, fw l ⟨(a : Int), size, kind, (q : Int), mark, next⟩ i = l.getD (a + 2 + i) 0 := fun i => by unfold fw; rw [Int.toNat_natCast]
  have HC := Lib.hid (And.intro hcp hfw)
  have hw1 : IntKind.i64.wrap ((a : Int) + 2) = (a : Int) + 2 := IntWalk.i64_in _ (by omega)
  have HH := Lib.hid hn; have HX := hx; have HW := Lib.hid hw; have HO := Lib.hid (And.intro hO (And.intro hOl hb))
  have HN := Lib.hid (And.intro hle hl)
  have hnb : n ≤ 1000000 := by omega
  clear hc hi hty hT hk hle ht' hx hcp hfw hn hw h hl hO hOl hb
  go_enter Try.func107, Try.ntmps107
  go_upto_region 1 with (fail)
  refine wp_gen (fun Wv => Bx Wv (w.heap.size) (38) (#[.int .i64 a, .int .i64 size, .int .i64 kind, .int .i64 q, .bool mark, .int .u64 next.toNat]) ∧ Below w.heap.size w Wv) ⟨((Bx.at_ (by simp))), ((Below.refl _ w).alloc (by simp <;> omega) _)⟩ ?_
  rintro wa1 ⟨g2, b⟩
  replace m0 := cell_later b m0; replace B := B.trans (b.mono B.size); clear b
  have c_g2 := g2.cell; have f_g2 := g2.free; have a_g2 := fun o => (g2.alloc o).cell; have d_g2 := fun o o2 => ((g2.alloc o).alloc o2).cell; have e_g2 := fun o => (g2.alloc o).free
  go_wp2
  go_loopg [12] n (fun gg i wr => ∃ j : Nat, j ≤ n ∧ gg = n - j ∧ i = .int .i64 j ∧ Hid (wr = wa1) ∧ Hid (∀ i, i < j → (t'.getD i 0).toNat = 3 → (l.getD (a + 2 + i) 0 = 0 ∨ IsObj O (l.getD (a + 2 + i) 0).toNat)))
  case atStart => exact ⟨0, by omega, rfl, rfl, Lib.hid rfl, Lib.hid (fun i hi => by omega)⟩
  case round =>
    obtain ⟨j, hj, rfl, rfl, hh, hz⟩ := hrel
    obtain rfl := hh.out
    by_cases hlt : j < n
    · obtain ⟨ak, kd, ik, mk, hkd⟩ := (Byts.below HX.out B).at_ (P := Try.prog) Try.underlying44 one_u8 (k := j) (by rw [← HH.out]; exact hlt)
      have hgk : t'.getD j 0 = kd := by rw [List.getD_eq_getElem?_getD, hkd.out]; rfl
      obtain ⟨ad2, y, iy, m2, hy⟩ := (HW.out.below B).at_ (P := Try.prog) Try.underlying22 one_u64 (k := a + 2 + j) (by have := HN.out.1; omega)
      have iy2 : ∀ W, (Instr.indexAt 22 v (.int .i64 ((a : Int) + 2 + (j : Int)))).run Try.prog W = .ok (.pointer (some ad2)) W := iy
      have hgy : l.getD (a + 2 + j) 0 = y := by rw [List.getD_eq_getElem?_getD, hy.out]; rfl
      have hw2 : IntKind.i64.wrap ((a : Int) + 2 + (j : Int)) = (a : Int) + 2 + (j : Int) := IntWalk.i64_in _ (by have := HN.out; omega)
      have hstep : ((t'.getD j 0).toNat = 3 → (y = 0 ∨ IsObj O y.toNat)) → Hid (∀ i, i < j + 1 → (t'.getD i 0).toNat = 3 → (l.getD (a + 2 + i) 0 = 0 ∨ IsObj O (l.getD (a + 2 + i) 0).toNat)) := fun hh => Lib.hid (fun i hi h2 => by
        by_cases e : i = j
        · subst e; rw [hgy]; exact hh h2
        · exact hz.out i (by omega) h2)
      by_cases hk3 : kd.toNat = 3
      · have hk4 : ((kd.toNat : Int) == 3) = true := by rw [beq_iff_eq]; omega
        by_cases hy0 : y = 0
        · have h0 : decide ((0 : Int) < (y.toNat : Int)) = false := by rw [hy0]; rfl
          have h1 : decide ((0 : Nat) < y.toNat) = false := by rw [hy0]; rfl
          have HZ := hstep (fun _ => .inl hy0)
          clear hstep hgy hgk hy0 hy hkd hk3 iy
          go_wp2
          go_roundg (n - (j + 1))
          case measure => omega
          case rel => exact ⟨j + 1, by omega, rfl, by go_num, Lib.hid rfl, HZ⟩
        · have hyp : 0 < y.toNat := Nat.pos_of_ne_zero (fun e => hy0 (UInt64.toNat.inj (by simpa using e)))
          have h0 : decide ((0 : Int) < (y.toNat : Int)) = true := decide_eq_true (by omega)
          have h1 : decide ((0 : Nat) < y.toNat) = true := decide_eq_true hyp
          obtain ⟨r, hr⟩ : ∃ r, r = idxI O y.toNat := ⟨_, rfl⟩
          have IT := Lib.hid (fun w h => idxR_any bv O y r hr HO.out.1 HO.out.2.1 w h)
          have hneg : r < 0 ↔ ¬ IsObj O y.toNat := by rw [hr]; exact idxI_neg
          by_cases ho : IsObj O y.toNat
          · have n1 : decide (r < 0) = false := decide_eq_false (fun h => hneg.1 h ho)
            have n2 : ¬ r < 0 := fun h => hneg.1 h ho
            have HZ := hstep (fun _ => .inr ho)
            clear hstep hgy hgk hy0 hy hkd hk3 iy hr hneg ho hyp
            go_wp2_with fail
            refine (IT.out _ (HO.out.2.2.below B)).mono ?_
            rintro e w' ⟨rfl, rfl⟩
            go_wp2
            go_roundg (n - (j + 1))
            case measure => omega
            case rel => exact ⟨j + 1, by omega, rfl, by go_num, Lib.hid rfl, HZ⟩
          · have n1 : decide (r < 0) = true := decide_eq_true (hneg.2 ho)
            have n2 : r < 0 := hneg.2 ho
            have hc0 : c = true := by
              rw [HC.out.1, decide_eq_true_iff]
              intro hall
              have := hall j hlt (by rw [hgk]; exact hk3)
              rw [HC.out.2, hgy] at this
              exact this.elim hy0 ho
            subst hc0
            clear hstep hgy hgk hy0 hy hkd hk3 iy hr hneg ho hyp
            go_wp2_with fail
            refine (IT.out _ (HO.out.2.2.below B)).mono ?_
            rintro e w' ⟨rfl, rfl⟩
            go_wp2
            go_ret
            exact ⟨rfl, B⟩
      · have hkn : ((kd.toNat : Int) == 3) = false := by rw [beq_eq_false_iff_ne]; omega
        have HZ := hstep (fun h3 => absurd (by rw [← hgk]; exact h3) hk3)
        clear hstep hgy hgk hy hkd hk3 iy
        go_wp2
        go_roundg (n - (j + 1))
        case measure => omega
        case rel => exact ⟨j + 1, by omega, rfl, by go_num, Lib.hid rfl, HZ⟩
    · obtain rfl : j = n := by omega
      have hc1 : c = false := by rw [HC.out.1, decide_eq_false_iff_not]; exact fun hh => hh (by intro i hi h2; rw [HC.out.2]; exact hz.out i hi h2)
      subst hc1
      go_wp2
      go_ret
      exact ⟨rfl, B⟩
/-- whether an object is wrong for a reason -/
theorem wrongR_any (v tv bv : Value) (l : List UInt64) (T : List (List UInt8)) (O : List Hb) (b : Hb) (r : Nat) (c : Bool) (hc : c = decide (¬ L19.Good l T O r b)) (hr : 7 ≤ r ∧ r ≤ 11) (hi : In19 l b) (hty : 8 < r → Typed T b) (hT : ∀ t ∈ T, kErr t = 0) (hl : l.length ≤ 1000000) (hO : ∀ b ∈ O, 0 ≤ b.at_ ∧ b.at_ ≤ 1000000) (hOl : O.length ≤ 1000000) (w : World) (hw : Words w v l) (h : Typs w tv T) (hb : Blks w bv O) :
    Calls Try.prog 107 #[v, tv, bv, .agg #[.int .i64 b.at_, .int .i64 b.size, .int .i64 b.kind, .int .i64 b.ty, .bool b.mark, .int .u64 b.next.toNat], .int .i64 r] w fun e w' => e = .returned (.bool c) ∧ Below w.heap.size w w' := by
  obtain ⟨h1, h2⟩ := hr
  obtain rfl | rfl | rfl | rfl | rfl : r = 7 ∨ r = 8 ∨ r = 9 ∨ r = 10 ∨ r = 11 := by omega
  · exact wrong7 v tv bv b c hc w
  · exact wrong8 v tv bv T b c hc (by obtain ⟨a, _, hok, _⟩ := hi; exact hok.bounds.2.2.2.2.1) hT w h
  · exact wrong9 v tv bv l T b c hc hi (hty (by omega)) hl w hw h
  · exact wrong10 v tv bv l T b c hc hi (hty (by omega)) hl w hw h
  · exact wrong11 v tv bv l T O b c hc hi (hty (by omega)) hl hO hOl w hw h hb
end Go.Proofs.Ytbfmdbeeiicabaa
namespace Go.Proofs.Ytbfmdbeeiicabaa
open Go.RowKit L01 L02 L05 L06 L07 L13 L14 L15 L18 L19
/-- what the reference knows of an image -/
structure Rs (W : World) (v tv sv bv : Value) (l : List UInt64) (T : List (List UInt8)) (S : List Sl) (O : List Hb) : Prop where
  w : Words W v l
  t : Typs W tv T
  s : Slots W sv S
  b : Blks W bv O
theorem Rs.below {W W' : World} {v tv sv bv : Value} {l : List UInt64} {T : List (List UInt8)} {S : List Sl} {O : List Hb} (h : Rs W v tv sv bv l T S O) (hb : Below W.heap.size W W') : Rs W' v tv sv bv l T S O :=
  ⟨h.w.below hb, h.t.below hb, Slots.below h.s hb, h.b.below hb⟩
set_option maxRecDepth 100000 in
set_option maxHeartbeats 8000000 in
theorem WhyR_any (v : Value) (l : List UInt64) (hs : SizeOk l.length) (n : Nat) (hn : n = why l) (w : World) (h : Words w v l) :
    Calls Try.prog 69 #[v] w fun e w' => e = .returned (.int .i64 n) ∧ Below w.heap.size w w' := by
  have B : Below w.heap.size w w := Below.refl _ _
  have H := Lib.hid h
  have hs2 := hs
  obtain ⟨hn1, hn2, hn3⟩ := hs2
  obtain ⟨sw, hsw⟩ : ∃ x, x = sW l := ⟨_, rfl⟩
  obtain ⟨st, hst⟩ : ∃ x, x = sT l := ⟨_, rfl⟩
  obtain ⟨i0, hi0⟩ : ∃ x, x = is0 l := ⟨_, rfl⟩
  obtain ⟨i1, hi1⟩ : ∃ x, x = is1 l := ⟨_, rfl⟩
  obtain ⟨r1, hr1⟩ : ∃ x, x = rErr l := ⟨_, rfl⟩
  have TT := Lib.hid (fun w h => TReadR_any v l sw st i0 i1 r1 hsw hst hi0 hi1 hr1 w h)
  obtain ⟨z1, hz1⟩ : ∃ x, x = decide (Zr l 16) := ⟨_, rfl⟩
  obtain ⟨z2, hz2⟩ : ∃ x, x = decide (Zr l 24) := ⟨_, rfl⟩
  have Z1 : Hid (∀ w, Words w v l → Calls Try.prog 104 #[v, .int .i64 16] w fun e w' => e = .returned (.bool z1) ∧ w = w') := Lib.hid (fun w h => emptyR19_any v l 16 z1 hz1 (by omega) (by omega) w h)
  have Z2 : Hid (∀ w, Words w v l → Calls Try.prog 104 #[v, .int .i64 24] w fun e w' => e = .returned (.bool z2) ∧ w = w') := Lib.hid (fun w h => emptyR19_any v l 24 z2 hz2 (by omega) (by omega) w h)
  obtain ⟨t4, ht4⟩ : ∃ x, x = decide (rErr l = 0 ∧ tabErr l (sT l) = 0) := ⟨_, rfl⟩
  obtain ⟨T, hT⟩ : ∃ T, T = if t4 = true then T19 l else [] := ⟨_, rfl⟩
  have KT := Lib.hid (fun w h => TypesR19_any v l hs T t4 ht4 hT w h)
  obtain ⟨S, hS⟩ : ∃ S, S = all l := ⟨_, rfl⟩
  obtain ⟨t5, ht5⟩ : ∃ x, x = decide (openErr l = 0) := ⟨_, rfl⟩
  have AT := Lib.hid (fun w h => ToldR_any v l hs S t5 hS ht5 w h)
  obtain ⟨L, hL⟩ : ∃ L, L = allL l := ⟨_, rfl⟩
  obtain ⟨t6, ht6⟩ : ∃ x, x = decide (allErr l = 0) := ⟨_, rfl⟩
  have WT := Lib.hid (fun w h => ParsedR_any v l hs L t6 hL ht6 w h)
  have h6 : why6 l = if r1 ≠ 0 then 1 else if z1 = false then 2 else if z2 = false then 3 else if t4 = false then 4 else if t5 = false then 5 else if t6 = false then 6 else 0 := by
    rw [why6, hr1]
    by_cases c0 : rErr l = 0 <;> by_cases c1 : Zr l 16 <;> by_cases c2 : Zr l 24 <;> by_cases c3 : tabErr l (sT l) = 0 <;> by_cases c4 : openErr l = 0 <;> by_cases c5 : allErr l = 0 <;> simp [hz1, hz2, ht4, ht5, ht6, c0, c1, c2, c3, c4, c5]
  have HW6 := Lib.hid h6
  have HWY := Lib.hid (show ∀ k, why6 l = k → k ≠ 0 → n = k from fun k hk h0 => by rw [hn, why, if_pos (by rw [hk]; exact h0), hk])
  have HWN := Lib.hid (show why6 l = 0 → n = if whyO l (T19 l) (O19 l) 5 7 ≠ 0 then whyO l (T19 l) (O19 l) 5 7 else if SlotsGood (slots l) (O19 l) then 0 else 12 from fun h0 => by rw [hn, why, if_neg (fun h => h h0)])
  have HF := Lib.hid (And.intro hT (And.intro hS (And.intro hL hs)))
  have HD := Lib.hid (And.intro ht4 (And.intro ht5 ht6))
  clear hn hsw hst hi0 hi1 hr1 hz1 hz2 hT ht4 hS ht5 hL ht6 h hn1 hn2 hn3 hs h6
  go_enter Try.func69, Try.ntmps69
  go_wp2_with fail
  refine (TT.out _ (H.out.below B)).mono ?_
  rintro e wa1 ⟨rfl, b⟩
  replace B := B.trans (b.mono B.size); clear b
  go_upto_region 2 with (fail)
  refine wp_gen (fun Wv => Bx Wv (wa1.heap.size) (60) (#[.int .i64 sw, .int .i64 st]) ∧ Bx Wv (wa1.heap.size + 1) (61) (#[.bool i0, .bool i1]) ∧ Below wa1.heap.size wa1 Wv) ⟨(((Bx.at_ (by simp)).alloc _)), ((Bx.at_ (by simp))), (((Below.refl _ wa1).alloc (by simp <;> omega) _).alloc (by simp <;> omega) _)⟩ ?_
  rintro wa2 ⟨g2, g3, b⟩
  replace B := B.trans (b.mono B.size); clear b
  have c_g2 := g2.cell; have f_g2 := g2.free; have a_g2 := fun o => (g2.alloc o).cell; have d_g2 := fun o o2 => ((g2.alloc o).alloc o2).cell; have e_g2 := fun o => (g2.alloc o).free
  have c_g3 := g3.cell; have f_g3 := g3.free; have a_g3 := fun o => (g3.alloc o).cell; have d_g3 := fun o o2 => ((g3.alloc o).alloc o2).cell; have e_g3 := fun o => (g3.alloc o).free
  by_cases h1 : r1 = 0
  case neg =>
    have n1 : (r1 != 0) = true := by rw [bne_iff_ne]; exact h1
    obtain rfl := HWY.out 1 (by rw [HW6.out, if_pos h1]) (by omega)
    clear h1
    go_wp2
    go_ret
    exact ⟨rfl, B⟩
  case pos =>
    subst h1
    go_upto_region 4 with (fail)
    go_wp2_with fail
    refine (Z1.out _ (H.out.below B)).mono ?_
    rintro e w' ⟨rfl, rfl⟩
    cases z1
    · obtain rfl := HWY.out 2 (by rw [HW6.out]; simp) (by omega)
      go_wp2
      go_ret
      exact ⟨rfl, B⟩
    · go_wp2_with fail
      refine (Z2.out _ (H.out.below B)).mono ?_
      rintro e w' ⟨rfl, rfl⟩
      cases z2
      · obtain rfl := HWY.out 3 (by rw [HW6.out]; simp) (by omega)
        go_wp2
        go_ret
        exact ⟨rfl, B⟩
      · clear g2 g3 c_g2 f_g2 a_g2 d_g2 e_g2 c_g3 f_g3 a_g3 d_g3 e_g3
        go_upto_region 8 with (fail)
        go_wp2_with fail
        refine (KT.out _ (H.out.below B)).mono ?_
        rintro e wa3 ⟨xt, rfl, ot, b⟩
        replace B := B.trans (b.mono B.size); clear b
        cases t4
        · obtain rfl := HWY.out 4 (by rw [HW6.out]; simp) (by omega)
          go_wp2
          go_ret
          exact ⟨rfl, B⟩
        · skip
          go_wp2_with fail
          refine (AT.out _ (H.out.below B)).mono ?_
          rintro e wa4 ⟨xs, rfl, os, b⟩
          replace ot := ot.below b; replace B := B.trans (b.mono B.size); clear b
          cases t5
          · obtain rfl := HWY.out 5 (by rw [HW6.out]; simp) (by omega)
            go_wp2
            go_ret
            exact ⟨rfl, B⟩
          · skip
            go_wp2_with fail
            refine (WT.out _ (H.out.below B)).mono ?_
            rintro e wa5 ⟨xl, rfl, ol, b⟩
            replace ot := ot.below b; replace os := os.below b; replace B := B.trans (b.mono B.size); clear b
            cases t6
            · obtain rfl := HWY.out 6 (by rw [HW6.out]; simp) (by omega)
              go_wp2
              go_ret
              exact ⟨rfl, B⟩
            · have e6 := HW6.out
              simp only [ne_eq, not_true, if_false, Bool.true_eq_false] at e6
              have HN := Lib.hid (HWN.out e6)
              obtain ⟨d4, d5, d6⟩ := HD.out
              have d4' := (of_decide_eq_true d4.symm).2
              have d5' := of_decide_eq_true d5.symm
              have d6' := of_decide_eq_true d6.symm
              obtain ⟨hT, hS, hL, hs⟩ := HF.out
              have hT' : T = T19 l := by simpa using hT
              have hS' : S = slots l := by rw [hS, all, if_pos d5']
              have hkT := (T19_ok d4').2
              have hIn : ∀ b ∈ O19 l, In19 l b := fun b hb => in19_of d6' hb
              have hl1 : l.length ≤ 1000000 := by have := hs.2.1; omega
              have hOl : ∀ b ∈ O19 l, 0 ≤ b.at_ ∧ b.at_ ≤ 1000000 := fun b hb => by obtain ⟨a, _, h2, h3, h4, _, _, _, h8, _⟩ := objs_at d6' hb; omega
              have hOn := objs_len d6'
              have hLn := all_len d6'
              have hSn := slots_len' d5'
              have hI64 : ∀ s ∈ slots l, s.used = true → 0 ≤ s.at_ ∧ s.at_ ≤ 1000000 := fun s hs' hu => by
                obtain ⟨x, hx, rfl⟩ := List.mem_map.1 hs'
                have := (allR_of d5' x hx).2.2.2 hu
                omega
              rw [← hL] at hLn
              obtain ⟨O, hO⟩ : ∃ O, O = O19 l := ⟨_, rfl⟩
              have OT := Lib.hid (fun w h => objsR_any xl L O (by rw [hO, O19, hL]) w h (by omega))
              rw [← hO] at hIn hOl hOn
              rw [← hT'] at hkT
              rw [← hS'] at hSn hI64
              have HK := Lib.hid (And.intro hkT (And.intro hIn (And.intro hl1 (And.intro hOl hI64))))
              have HSN := Lib.hid hSn
              have HN' : Hid (n = if whyO l T O 5 7 ≠ 0 then whyO l T O 5 7 else if SlotsGood S O then 0 else 12) := by rw [hT', hS', hO]; exact HN
              clear HN e6 d4 d5 d6 d4' d5' d6' hT hS hL hs hT' hS' hkT hIn hl1 hOl hLn hSn hI64 hO HD HF HW6 HWY HWN
              go_wp2_with fail
              refine (OT.out _ ol.rd).mono ?_
              rintro e wa6 ⟨xo, rfl, oo, b⟩
              replace ot := ot.below b; replace os := os.below b; replace ol := ol.below b; replace B := B.trans (b.mono B.size); clear b
              obtain ⟨NO, hNO⟩ : ∃ N, N = O.length := ⟨_, rfl⟩
              rw [← hNO] at hOn
              have HNO := Lib.hid hNO
              clear hNO
              have HG0 := Lib.hid (And.intro (Rs.mk (H.out.below B) ot.rd os.rd oo.rd) B)
              clear ot os ol oo B
              go_wp2
              go_loopg [11] 5 (fun gg i wr => ∃ j : Nat, 7 ≤ j ∧ j ≤ 12 ∧ gg = 12 - j ∧ i = .int .i64 j ∧ Hid (Rs wr v xt xs xo l T S O ∧ Below w.heap.size w wr) ∧ Hid (∀ i, 7 ≤ i → i < j → AllGood l T O i))
              case atStart => exact ⟨7, by omega, by omega, by omega, rfl, HG0, Lib.hid (fun i h1 h2 => by omega)⟩
              case round =>
                obtain ⟨j, hj7, hj, rfl, rfl, hh, hz⟩ := hrel
                clear HG0
                by_cases hlt : j ≤ 11
                · have n1 : decide ((j : Int) ≤ 11) = true := decide_eq_true (by omega)
                  go_wp2
                  go_loopg [12] NO (fun gg i wx => ∃ k : Nat, k ≤ NO ∧ gg = NO - k ∧ i = .int .i64 k ∧ Hid (Rs wx v xt xs xo l T S O ∧ Below w.heap.size w wx) ∧ Hid (∀ i b, i < k → O[i]? = some b → L19.Good l T O j b))
                  case atStart => exact ⟨0, by omega, by omega, rfl, hh, Lib.hid (fun i b h1 => by omega)⟩
                  case round =>
                    obtain ⟨k, hk, rfl, rfl, hh2, hz2⟩ := hrel
                    clear hh
                    obtain ⟨rs, B⟩ := hh2.out
                    have lo := rs.b.len
                    rw [← HNO.out] at lo
                    by_cases hlk : k < NO
                    · obtain ⟨bb, oo, b, ia, m0, m1, m2, m3, m4, m5, hb, _⟩ := rs.b.at_ (k := k) (by rw [← HNO.out]; exact hlk)
                      have hbO := List.mem_of_getElem? hb.out
                      obtain ⟨c, hc⟩ : ∃ c, c = decide (¬ L19.Good l T O j b) := ⟨_, rfl⟩
                      have WR := Lib.hid (fun w hw ht hb' => wrongR_any v xt xo l T O b j c hc ⟨hj7, hlt⟩ (HK.out.2.1 b hbO) (fun h8 => hz.out 8 (by omega) (by omega) b hbO) HK.out.1 HK.out.2.2.1 HK.out.2.2.2.1 (by rw [← HNO.out]; omega) w hw ht hb')
                      cases c
                      · have hg : L19.Good l T O j b := by simpa using hc.symm
                        have HZ : Hid (∀ i b, i < k + 1 → O[i]? = some b → L19.Good l T O j b) := Lib.hid (fun i b' hi hb' => by
                          by_cases e : i = k
                          · subst e; rw [hb.out] at hb'; injection hb' with hb'; subst hb'; exact hg
                          · exact hz2.out i b' (by omega) hb')
                        clear hc hg hbO hb
                        go_wp2_with fail
                        refine (WR.out _ rs.w rs.t rs.b).mono ?_
                        rintro e wa7 ⟨rfl, b⟩
                        replace rs := rs.below b; replace B := B.trans (b.mono B.size); clear b
                        have HG := Lib.hid (And.intro rs B)
                        go_wp2
                        go_roundg (NO - (k + 1))
                        case measure => omega
                        case rel => exact ⟨k + 1, by omega, rfl, by go_num, HG, HZ⟩
                      · have hg : ¬ L19.Good l T O j b := by simpa using hc.symm
                        have hwo := whyO_at (l := l) (T := T) (O := O) 5 7 (j - 7) (by omega) (fun i hi => hz.out (7 + i) (by omega) (by omega)) (by rw [show 7 + (j - 7) = j by omega]; exact fun ha => hg (ha b hbO))
                        rw [show 7 + (j - 7) = j by omega] at hwo
                        have hn : n = j := by rw [HN'.out, hwo, if_pos (by omega)]
                        subst hn
                        clear hc hg hbO hb hwo
                        go_wp2_with fail
                        refine (WR.out _ rs.w rs.t rs.b).mono ?_
                        rintro e wa8 ⟨rfl, b⟩
                        replace rs := rs.below b; replace B := B.trans (b.mono B.size); clear b
                        go_wp2
                        go_ret
                        exact ⟨rfl, B⟩
                    · obtain rfl : k = NO := by omega
                      have HZ : Hid (∀ i, 7 ≤ i → i < j + 1 → AllGood l T O i) := Lib.hid (fun i h1 h2 => by
                        by_cases e : i = j
                        · subst e
                          intro b hb
                          obtain ⟨q, hq⟩ := List.getElem?_of_mem hb
                          exact hz2.out q b (by rw [HNO.out]; exact (List.getElem?_eq_some_iff.1 hq).1) hq
                        · exact hz.out i h1 (by omega))
                      go_wp2
                      go_roundg (12 - (j + 1))
                      case measure => omega
                      case rel => exact ⟨j + 1, by omega, by omega, rfl, by go_num, hh2, HZ⟩
                · obtain rfl : j = 12 := by omega
                  have hw0 := (whyO_zero (l := l) (T := T) (O := O) 5 7 (by omega)).2 (fun i h1 h2 => hz.out i h1 (by omega))
                  have hn0 : n = if SlotsGood S O then 0 else 12 := by rw [HN'.out, hw0, if_neg (by omega)]
                  have HN := Lib.hid hn0
                  clear hw0 hn0
                  go_wp2
                  go_loopg [13] 16 (fun gg i wx => ∃ k : Nat, k ≤ 16 ∧ gg = 16 - k ∧ i = .int .i64 k ∧ Hid (Rs wx v xt xs xo l T S O ∧ Below w.heap.size w wx) ∧ Hid (∀ i s, i < k → S[i]? = some s → s.used = true → IsObj O s.at_))
                  case atStart => exact ⟨0, by omega, by omega, rfl, hh, Lib.hid (fun i b h1 => by omega)⟩
                  case round =>
                    obtain ⟨k, hk, rfl, rfl, hh2, hz2⟩ := hrel
                    clear hh
                    obtain ⟨rs, B⟩ := hh2.out
                    have ls := Rd.len rs.s Try.underlying64
                    rw [HSN.out] at ls
                    by_cases hlk : k < 16
                    · obtain ⟨bb, oo, t, ia, m0, m1, m2, ht⟩ := rs.s.at_ (P := Try.prog) Try.underlying64 size_slot (k := k) (by rw [HSN.out]; exact hlk)
                      obtain ⟨tg, tu, ta⟩ := t
                      dsimp only at m0 m1 m2
                      have HT := Lib.hid ht.out
                      clear ht
                      cases tu
                      · have HZ : Hid (∀ i s, i < k + 1 → S[i]? = some s → s.used = true → IsObj O s.at_) := Lib.hid (fun i s hi hs hu => by
                          by_cases e : i = k
                          · subst e; rw [HT.out] at hs; injection hs with hs; subst hs; cases hu
                          · exact hz2.out i s (by omega) hs hu)
                        go_wp2
                        go_roundg (16 - (k + 1))
                        case measure => omega
                        case rel => exact ⟨k + 1, by omega, rfl, by go_num, hh2, HZ⟩
                      · obtain ⟨y1, y2⟩ := HK.out.2.2.2.2 _ (List.mem_of_getElem? HT.out) rfl
                        dsimp only at y1 y2
                        obtain ⟨a, ha⟩ : ∃ a : UInt64, ta = (a.toNat : Int) := ⟨UInt64.ofNat ta.toNat, by
                          rw [UInt64.toNat_ofNat_of_lt' (by show ta.toNat < 18446744073709551616; omega)]; omega⟩
                        subst ha
                        have hwa : IntKind.u64.wrap (a.toNat : Int) = (a.toNat : Int) := by rw [wrap_u64]; omega
                        obtain ⟨r, hr⟩ : ∃ r, r = idxI O a.toNat := ⟨_, rfl⟩
                        have IT := Lib.hid (fun w h => idxR_any xo O a r hr HK.out.2.2.2.1 (by rw [← HNO.out]; omega) w h)
                        have hneg : r < 0 ↔ ¬ IsObj O a.toNat := by rw [hr]; exact idxI_neg
                        by_cases ho : IsObj O a.toNat
                        · have n1 : decide (r < 0) = false := decide_eq_false (fun h => hneg.1 h ho)
                          have n2 : ¬ r < 0 := fun h => hneg.1 h ho
                          have HZ : Hid (∀ i s, i < k + 1 → S[i]? = some s → s.used = true → IsObj O s.at_) := Lib.hid (fun i s hi hs hu => by
                            by_cases e : i = k
                            · subst e; rw [HT.out] at hs; injection hs with hs; subst hs; exact ho
                            · exact hz2.out i s (by omega) hs hu)
                          clear hr hneg ho y1 y2
                          go_wp2_with fail
                          refine (IT.out _ rs.b).mono ?_
                          rintro e w' ⟨rfl, rfl⟩
                          go_wp2
                          go_roundg (16 - (k + 1))
                          case measure => omega
                          case rel => exact ⟨k + 1, by omega, rfl, by go_num, hh2, HZ⟩
                        · have n1 : decide (r < 0) = true := decide_eq_true (hneg.2 ho)
                          have n2 : r < 0 := hneg.2 ho
                          have hn0 : n = 12 := by rw [HN.out, if_neg (fun hsg => ho (hsg _ (List.mem_of_getElem? HT.out) rfl))]
                          subst hn0
                          clear hr hneg ho y1 y2
                          go_wp2_with fail
                          refine (IT.out _ rs.b).mono ?_
                          rintro e w' ⟨rfl, rfl⟩
                          go_wp2
                          go_ret
                          exact ⟨rfl, B⟩
                    · obtain rfl : k = 16 := by omega
                      have hsg : SlotsGood S O := fun s hs hu => by
                        obtain ⟨i, hi⟩ := List.getElem?_of_mem hs
                        exact hz2.out i s (by rw [← HSN.out]; exact (List.getElem?_eq_some_iff.1 hi).1) hi hu
                      have hn0 : n = 0 := by rw [HN.out, if_pos hsg]
                      subst hn0
                      clear hsg
                      go_wp2
                      go_ret
                      exact ⟨rfl, B⟩
end Go.Proofs.Ytbfmdbeeiicabaa
namespace Go.Proofs.Ytbfmdbeeiicabaa
open Go.RowKit L01 L02 L05 L06 L07 L13 L14 L15 L18 L19
theorem ReasonR_any (v : Value) (l : List UInt64) (n : Nat) (r : Int) (hn : n = rea l) (hr : r = reaE l) (w : World) (h : Words w v l) :
    Calls Try.prog 28 #[v] w fun e w' => e = .returned (.tuple #[.int .i64 n, .int .i64 r]) ∧ Below w.heap.size w w' := by
  have B : Below w.heap.size w w := Below.refl _ _
  have H := Lib.hid h
  obtain ⟨c, hc⟩ : ∃ c, c = chk l := ⟨_, rfl⟩
  have CT : Hid (∀ w, Words w v l → Calls Try.prog 14 #[v] w fun e w' => e = .returned (.int .i64 c) ∧ w = w') := by rw [hc]; exact Lib.hid (fun w h => CheckR_any v l w h)
  by_cases hs : SizeOk l.length
  case neg =>
    have hr0 : r = 8 := by rw [hr, reaE, if_neg hs]
    have hn0 : n = 0 := by rw [hn, rea, if_neg hs]
    have hc8 : c = 8 := by rw [hc, chk_no hs]
    subst hr0; subst hn0; subst hc8
    clear hr hn hs hc h
    go_enter Try.func28, Try.ntmps28
    go_wp2_with fail
    refine (CT.out _ (H.out.below B)).mono ?_
    rintro e w' ⟨rfl, rfl⟩
    go_wp2
    go_ret2
    exact ⟨rfl, B⟩
  case pos =>
    have hr0 : r = 0 := by rw [hr, reaE, if_pos hs]
    have hnw : n = why l := by rw [hn, rea, if_pos hs]
    have hc0 : c = 0 := by rw [hc, chk_ok hs]
    have WT := Lib.hid (fun w h => WhyR_any v l hs n hnw w h)
    subst hr0; subst hc0
    clear hr hn hs hc h hnw
    go_enter Try.func28, Try.ntmps28
    go_wp2_with fail
    refine (CT.out _ (H.out.below B)).mono ?_
    rintro e w' ⟨rfl, rfl⟩
    go_wp2_with fail
    refine (WT.out _ (H.out.below B)).mono ?_
    rintro e wa1 ⟨rfl, b⟩
    replace B := B.trans (b.mono B.size); clear b
    go_wp2
    go_ret2
    exact ⟨rfl, B⟩
theorem Check19R_any (v : Value) (l : List UInt64) (r : Int) (hr : r = chk19 l) (w : World) (h : Words w v l) :
    Calls Try.prog 30 #[v] w fun e w' => e = .returned (.int .i64 r) ∧ Below w.heap.size w w' := by
  have B : Below w.heap.size w w := Below.refl _ _
  have H := Lib.hid h
  obtain ⟨n, hn⟩ : ∃ n, n = rea l := ⟨_, rfl⟩
  obtain ⟨q, hq⟩ : ∃ q, q = reaE l := ⟨_, rfl⟩
  have RT := Lib.hid (fun w h => ReasonR_any v l n q hn hq w h)
  have hcase : (q = 0 ∧ n = 0 ∧ r = 0) ∨ (q = 0 ∧ 0 < n ∧ r = 50) ∨ (q = 8 ∧ r = 8) := by
    rw [hr, hn, hq]
    by_cases hs : SizeOk l.length
    · by_cases h0 : why l = 0
      · exact .inl ⟨by rw [reaE, if_pos hs], by rw [rea, if_pos hs, h0], by rw [chk19, if_pos hs, if_pos h0]⟩
      · exact .inr (.inl ⟨by rw [reaE, if_pos hs], by rw [rea, if_pos hs]; omega, by rw [chk19, if_pos hs, if_neg h0]⟩)
    · exact .inr (.inr ⟨by rw [reaE, if_neg hs], by rw [chk19, if_neg hs]⟩)
  clear hn hq hr h
  rcases hcase with ⟨rfl, rfl, rfl⟩ | ⟨rfl, h1, rfl⟩ | ⟨rfl, rfl⟩
  · skip
    go_enter Try.func30, Try.ntmps30
    go_wp2_with fail
    refine (RT.out _ (H.out.below B)).mono ?_
    rintro e wa1 ⟨rfl, b⟩
    replace B := B.trans (b.mono B.size); clear b
    go_wp2
    go_ret
    exact ⟨rfl, B⟩
  · have n1 : (0 : Int) < (n : Int) := by omega
    have n2 : decide ((0 : Int) < (n : Int)) = true := decide_eq_true n1
    go_enter Try.func30, Try.ntmps30
    go_wp2_with fail
    refine (RT.out _ (H.out.below B)).mono ?_
    rintro e wa1 ⟨rfl, b⟩
    replace B := B.trans (b.mono B.size); clear b
    go_wp2
    go_ret
    exact ⟨rfl, B⟩
  · skip
    go_enter Try.func30, Try.ntmps30
    go_wp2_with fail
    refine (RT.out _ (H.out.below B)).mono ?_
    rintro e wa1 ⟨rfl, b⟩
    replace B := B.trans (b.mono B.size); clear b
    go_wp2
    go_ret
    exact ⟨rfl, B⟩
end Go.Proofs.Ytbfmdbeeiicabaa
namespace Go.Proofs.Ytbfmdbeeiicabaa.L16
open L02 L14 L15 L19
def free (L : List Hb) : List Hb := L.filter fun b => decide (b.kind = 2)
def freeL (l : List UInt64) : List Hb := free (allL l)
theorem free_mem {L : List Hb} {b : Hb} : b ∈ free L ↔ b ∈ L ∧ b.kind = 2 := by unfold free; rw [List.mem_filter]; simp
end Go.Proofs.Ytbfmdbeeiicabaa.L16
namespace Go.Proofs.Ytbfmdbeeiicabaa.L19
open L02 L07 L13 L14 L15 L16 L18
/-- blocks that stand one behind the other, from an address to another -/
inductive Seg (l : List UInt64) : Nat → List Hb → Nat → Prop where
  | nil {k : Nat} : k ≤ l.length → Seg l k [] k
  | cons {k q : Nat} {L : List Hb} : k < l.length → StOk l k → Seg l (k + szN l k) L q → Seg l k (stand l k :: L) q
section
variable {l l' : List UInt64} {k p q : Nat} {A B L : List Hb} {b : Hb}
theorem Seg.le (h : Seg l k L q) : k ≤ q ∧ q ≤ l.length := by
  induction h with
  | nil h => exact ⟨Nat.le_refl _, h⟩
  | cons hk hs _ ih => have := szN_ge hs; omega
theorem Seg.of_chain (h : Chain l k L) : Seg l k L l.length := by
  induction h with
  | nil => exact .nil (Nat.le_refl _)
  | cons hk hs _ ih => exact .cons hk hs ih
theorem Seg.chain (h : Seg l k L q) (e : q = l.length) : Chain l k L := by
  induction h with
  | nil h => subst e; exact .nil
  | cons hk hs _ ih => exact .cons hk hs (ih e)
theorem Seg.append (h1 : Seg l k A p) (h2 : Seg l p B q) : Seg l k (A ++ B) q := by
  induction h1 with
  | nil h => exact h2
  | cons hk hs _ ih => exact .cons hk hs (ih h2)
theorem Seg.split : ∀ {A : List Hb} {k : Nat}, Seg l k (A ++ B) q → ∃ p, Seg l k A p ∧ Seg l p B q
  | [], k, h => ⟨k, .nil (Nat.le_trans (Seg.le h).1 (Seg.le h).2), h⟩
  | a :: A, k, h => by
    rw [List.cons_append] at h
    cases h with
    | cons hk hs ht =>
      obtain ⟨p, h1, h2⟩ := Seg.split ht
      exact ⟨p, .cons hk hs h1, h2⟩
theorem Seg.congr (h : Seg l k L q) (hl : l'.length = l.length) (he : ∀ i, k ≤ i → i < q → l'.getD i 0 = l.getD i 0) : Seg l' k L q := by
  induction h with
  | nil h => exact .nil (by omega)
  | cons hk hs ht ih =>
    rename_i k q L
    have hz := szN_ge hs
    have hle := ht.le
    have e0 := he k (Nat.le_refl _) (by omega)
    have e1 := he (k + 1) (by omega) (by omega)
    have es : stand l' k = stand l k := by unfold stand; rw [e0, e1]
    have ez : szN l' k = szN l k := by unfold szN; rw [e0]
    rw [← es]
    refine .cons (by omega) ?_ ?_
    · unfold StOk; rw [e0, hl]; exact hs
    · rw [ez]; exact ih (fun i h1 h2 => he i (by omega) h2)
/-- the first block -/
theorem Seg.head (h : Seg l k (b :: L) q) : b.at_ = k ∧ BkOk b ∧ b = stand l k ∧ StOk l k ∧ ((k + szN l k : Nat) : Int) = k + b.size ∧ Seg l (k + szN l k) L q := by
  cases h with
  | cons hk hs ht =>
    have hz := szN_ge hs
    refine ⟨rfl, stand_ok hs, rfl, hs, ?_, ht⟩
    rw [stand_size hs]; omega
theorem Seg.one (h : Seg l k [b] q) : b.at_ = k ∧ (q : Int) = k + b.size ∧ BkOk b := by
  obtain ⟨h1, h2, _, _, h3, h4⟩ := h.head
  cases h4 with
  | nil => exact ⟨h1, h3, h2⟩
theorem Seg.mem (h : Seg l k L q) : ∀ b ∈ L, ∃ a : Nat, k ≤ a ∧ StOk l a ∧ b = stand l a ∧ a + szN l a ≤ q := by
  induction h with
  | nil h => intro b hb; cases hb
  | cons hk hs ht ih =>
    intro b hb
    have hle := ht.le
    have hz := szN_ge hs
    rcases List.mem_cons.1 hb with rfl | hb
    · exact ⟨_, Nat.le_refl _, hs, rfl, by omega⟩
    · obtain ⟨a, h1, h2⟩ := ih b hb
      exact ⟨a, by omega, h2⟩
/-- where the blocks of a part lie -/
theorem Seg.bound (h : Seg l k L q) {b : Hb} (hb : b ∈ L) : (k : Int) ≤ b.at_ ∧ b.at_ + b.size ≤ q ∧ 2 ≤ b.size := by
  obtain ⟨a, h1, h2, h3, h4⟩ := h.mem b hb
  have hz := szN_ge h2
  have e1 : b.size = szN l a := by rw [h3]; exact stand_size h2
  have e2 : b.at_ = a := by rw [h3]; rfl
  omega
/-- a block stands where its word does -/
theorem stand_put (hok : BkOk b) (hw : l.getD k 0 = word b) (ha : b.at_ = k) (hn : b.next = l.getD (k + 1) 0) (hle : (k : Int) + b.size ≤ l.length) : StOk l k ∧ stand l k = b ∧ (szN l k : Int) = b.size := by
  have hsp := split_word hok
  have hb := hok.bounds
  refine ⟨⟨by rw [hw]; exact hd_word hok, by rw [hw, hsp]; exact hle⟩, ?_, ?_⟩
  · unfold stand
    rw [hw, hsp, ← hn, ← ha]
  · unfold szN
    rw [hw, hsp]
    show ((b.size.toNat : Nat) : Int) = b.size
    omega
theorem Seg.put (hok : BkOk b) (hw : l.getD k 0 = word b) (ha : b.at_ = k) (hn : b.next = l.getD (k + 1) 0) (hq : (q : Int) = k + b.size) (hle : q ≤ l.length) : Seg l k [b] q := by
  obtain ⟨h1, h2, h3⟩ := stand_put hok hw ha hn (by omega)
  have hb := hok.bounds
  have e : q = k + szN l k := by omega
  have := Seg.cons (l := l) (k := k) (q := q) (L := []) (by omega) h1 (by rw [← e]; exact .nil hle)
  rw [h2] at this
  exact this
/-- the whole heap -/
theorem all_of_seg (hs : SizeOk l.length) (h : Seg l 128 L l.length) (ha : ¬ Adj L) : allErr l = 0 ∧ allL l = L := by
  have hp : parsed l = some L := parsed_ok.2 ⟨from_chain (h.chain rfl), ha⟩
  have he : allErr l = 0 := by unfold allErr; rw [if_pos hs, hp]; rfl
  exact ⟨he, by rw [allL, if_pos he, hp]; rfl⟩
theorem seg_of_all (h : allErr l = 0) : Seg l 128 (allL l) l.length ∧ ¬ Adj (allL l) := by
  obtain ⟨hs, hp⟩ := allErr_ok h
  obtain ⟨hfr, hadj⟩ := parsed_ok.1 hp
  exact ⟨.of_chain (chain_iff.1 hfr), hadj⟩
end
theorem free_app (A B : List Hb) : free (A ++ B) = free A ++ free B := List.filter_append ..
/-- a part of the heap: what stands before it, it, what stands behind it -/
structure Cut (l : List UInt64) (P M S : List Hb) (p q : Nat) : Prop where
  eq : allL l = P ++ (M ++ S)
  s1 : Seg l 128 P p
  s2 : Seg l p M q
  s3 : Seg l q S l.length
  na : ¬ Adj (P ++ (M ++ S))
theorem Cut.of {l : List UInt64} (h : allErr l = 0) {P M S : List Hb} (e : allL l = P ++ (M ++ S)) : ∃ p q, Cut l P M S p q := by
  obtain ⟨h1, h2⟩ := seg_of_all h
  rw [e] at h1 h2
  obtain ⟨p, a1, a2⟩ := Seg.split h1
  obtain ⟨q, a3, a4⟩ := Seg.split a2
  exact ⟨p, q, e, a1, a3, a4, h2⟩
/-- the part written anew -/
theorem Cut.new {l l' : List UInt64} {P M S N : List Hb} {p q : Nat} (hs : SizeOk l.length) (h : Cut l P M S p q) (hl : l'.length = l.length) (he : ∀ i, 128 ≤ i → i < p ∨ q ≤ i → l'.getD i 0 = l.getD i 0) (hN : Seg l' p N q) (hna : ¬ Adj (P ++ (N ++ S))) :
    allErr l' = 0 ∧ allL l' = P ++ (N ++ S) ∧ Cut l' P N S p q := by
  have b1 := h.s1.le
  have b2 := h.s2.le
  have c1 : Seg l' 128 P p := h.s1.congr hl (fun i h1 h2 => he i h1 (.inl h2))
  have c3 : Seg l' q S l'.length := by rw [hl]; exact h.s3.congr hl (fun i h1 h2 => he i (by omega) (.inr h1))
  have c := c1.append (hN.append c3)
  obtain ⟨a1, a2⟩ := all_of_seg (by rw [hl]; exact hs) c hna
  exact ⟨a1, a2, a2, c1, hN, c3, hna⟩
end Go.Proofs.Ytbfmdbeeiicabaa.L19
namespace Go.Proofs.Ytbfmdbeeiicabaa.L20
open L02 L13 L18
/-- a reference to object n -/
def isRef (m : Mo) (o : Ob) (k : Nat) (n : Nat) : Prop := ((ty m.types o).getD k 0).toNat = 3 ∧ (o.fs.getD k 0).toNat = n + 1
instance (m : Mo) (o : Ob) (k n : Nat) : Decidable (isRef m o k n) := inferInstanceAs (Decidable (_ ∧ _))
/-- another slot, or a field of another object, refers to object n -/
def Busy (m : Mo) (sl : Int) (n : Nat) : Prop := (∃ i, i < m.slots.length ∧ (i : Int) ≠ sl ∧ (m.slots.getD i .none).used = true ∧ (m.slots.getD i .none).at_ = n) ∨ ∃ i, i < m.objs.length ∧ i ≠ n ∧ ∃ k, k < (ob m i).fs.length ∧ isRef m (ob m i) k n
instance (m : Mo) (sl : Int) (n : Nat) : Decidable (Busy m sl n) := inferInstanceAs (Decidable ((∃ i, i < m.slots.length ∧ (i : Int) ≠ sl ∧ (m.slots.getD i .none).used = true ∧ (m.slots.getD i .none).at_ = n) ∨ ∃ i, i < m.objs.length ∧ i ≠ n ∧ ∃ k, k < (ob m i).fs.length ∧ isRef m (ob m i) k n))
end Go.Proofs.Ytbfmdbeeiicabaa.L20
namespace Go.Proofs.Ytbfmdbeeiicabaa.L20
open L02 L13 L18
end Go.Proofs.Ytbfmdbeeiicabaa.L20
namespace Go.Proofs.Ytbfmdbeeiicabaa.L20
open L02 L13 L18
def kidAt (m : Mo) (o : Ob) (i : Nat) : Option Nat := if ((ty m.types o).getD i 0).toNat = 3 ∧ 0 < (o.fs.getD i 0).toNat then some ((o.fs.getD i 0).toNat - 1) else none
def kidsTo (m : Mo) (o : Ob) (p : Nat) : List Nat := (List.range p).filterMap (kidAt m o)
def kids (m : Mo) (n : Nat) : List Nat := kidsTo m (ob m n) (ob m n).fs.length
/-- out is what is found, ord has been found, l is to be looked at -/
inductive Rs (m : Mo) : List Nat → List Nat → List Nat → Prop
  | nil (ord : List Nat) : Rs m ord [] ord
  | seen {ord l out : List Nat} {n : Nat} : n ∈ ord → Rs m ord l out → Rs m ord (n :: l) out
  | new {ord l out : List Nat} {n : Nat} : n ∉ ord → Rs m (ord ++ [n]) (kids m n ++ l) out → Rs m ord (n :: l) out
section
variable {m : Mo} {ord l out : List Nat}
theorem Rs.join {mid : List Nat} {a : List Nat} (h : Rs m ord a mid) : ∀ {b out}, Rs m mid b out → Rs m ord (a ++ b) out := by
  induction h with
  | nil ord => intro b out h; exact h
  | seen h1 _ ih => intro b out h; exact .seen h1 (ih h)
  | new h1 _ ih =>
    intro b out h
    have h2 := ih h
    rw [List.append_assoc] at h2
    exact .new h1 h2
theorem Rs.pre (h : Rs m ord l out) : ord <+: out := by
  induction h with
  | nil ord => exact List.prefix_refl _
  | seen _ _ ih => exact ih
  | new _ _ ih => exact (List.prefix_append _ _).trans ih
theorem Rs.all {p : Nat → Prop} (hk : ∀ n, p n → ∀ k ∈ kids m n, p k) (h : Rs m ord l out) : (∀ n ∈ ord, p n) → (∀ n ∈ l, p n) → ∀ n ∈ out, p n := by
  induction h with
  | nil ord => intro h _; exact h
  | seen _ _ ih => intro h1 h2; exact ih h1 fun n hn => h2 n (List.mem_cons_of_mem _ hn)
  | @new ord l out n _ _ ih =>
    intro h1 h2
    have hpn := h2 n List.mem_cons_self
    refine ih (fun x hx => ?_) fun x hx => ?_
    · rcases List.mem_append.1 hx with h | h
      · exact h1 x h
      · rw [List.mem_singleton.1 h]; exact hpn
    · rcases List.mem_append.1 hx with h | h
      · exact hk n hpn x h
      · exact h2 x (List.mem_cons_of_mem _ h)
theorem Rs.mem (h : Rs m ord l out) : ∀ n ∈ l, n ∈ out := by
  induction h with
  | nil ord => intro n h; cases h
  | seen h1 h2 ih =>
    intro x hx
    rcases List.mem_cons.1 hx with h | h
    · rw [h]; exact h2.pre.subset h1
    · exact ih x h
  | new h1 h2 ih =>
    intro x hx
    rcases List.mem_cons.1 hx with h | h
    · rw [h]; exact h2.pre.subset (List.mem_append_right _ (by simp))
    · exact ih x (List.mem_append_right _ h)
end
/-- .. in so many steps -/
inductive Rn (m : Mo) : Nat → List Nat → List Nat → List Nat → Prop
  | nil (ord : List Nat) : Rn m 0 ord [] ord
  | seen {ord l out : List Nat} {n d : Nat} : n ∈ ord → Rn m d ord l out → Rn m (d + 1) ord (n :: l) out
  | new {ord l out : List Nat} {n d : Nat} : n ∉ ord → Rn m d (ord ++ [n]) (kids m n ++ l) out → Rn m (d + 1) ord (n :: l) out
theorem Rs.steps {m : Mo} {ord l out : List Nat} (h : Rs m ord l out) : ∃ d, Rn m d ord l out := by
  induction h with
  | nil ord => exact ⟨0, .nil _⟩
  | seen h1 _ ih => obtain ⟨d, h⟩ := ih; exact ⟨d + 1, .seen h1 h⟩
  | new h1 _ ih => obtain ⟨d, h⟩ := ih; exact ⟨d + 1, .new h1 h⟩
theorem Rn.rs {m : Mo} {ord l out : List Nat} {d : Nat} (h : Rn m d ord l out) : Rs m ord l out := by
  induction h with
  | nil ord => exact .nil _
  | seen h1 _ ih => exact .seen h1 ih
  | new h1 _ ih => exact .new h1 ih
theorem Rn.len {m : Mo} {ord l out : List Nat} {d : Nat} (h : Rn m d ord l out) : l.length ≤ d := by
  induction h with
  | nil ord => simp
  | seen h1 _ ih => simp; exact ih
  | new h1 _ ih => simp at ih ⊢; omega
theorem Rn.all {m : Mo} {p : Nat → Prop} (hk : ∀ n, p n → ∀ k ∈ kids m n, p k) {ord l out : List Nat} {d : Nat} (h : Rn m d ord l out) (h1 : ∀ n ∈ ord, p n) (h2 : ∀ n ∈ l, p n) : ∀ n ∈ out, p n := h.rs.all hk h1 h2
theorem Rn.end {m : Mo} {ord out : List Nat} {d : Nat} (h : Rn m d ord [] out) : out = ord := by cases h; rfl
end Go.Proofs.Ytbfmdbeeiicabaa.L20
namespace Go.Proofs.Ytbfmdbeeiicabaa.L20
open L02 L13 L18
/-- of the same types -/
def Like (m m' : Mo) : Prop := m'.types = m.types ∧ m'.objs.length = m.objs.length ∧ ∀ k, (ob m' k).ty = (ob m k).ty ∧ (ob m' k).fs.length = (ob m k).fs.length
theorem Like.refl (m : Mo) : Like m m := ⟨rfl, rfl, fun _ => ⟨rfl, rfl⟩⟩
section
variable {φ : UInt8 → UInt64 → UInt64} {m : Mo} {n i : Nat}
end
end Go.Proofs.Ytbfmdbeeiicabaa.L20
namespace Go.Proofs.Ytbfmdbeeiicabaa.L20
open L02 L13 L18
section
variable {α : Type} {f : α → α} {L : List α} {k : Nat} {s : α}
end
section
variable {m : Mo} {q n i : Nat}
end
def sk (q w : Nat) : Nat := if w < q then w else w + 1
end Go.Proofs.Ytbfmdbeeiicabaa.L20
namespace Go.Proofs.Ytbfmdbeeiicabaa.L19
open L02 L07 L13 L14 L15 L16 L18 L20
/-- images that are the same in front of the heap -/
structure Front (l l' : List UInt64) : Prop where
  len : l'.length = l.length
  take : l'.take 128 = l.take 128
section
variable {l l' : List UInt64}
theorem Front.get (h : Front l l') {i : Nat} (hi : i < 128) : l'.getD i 0 = l.getD i 0 := by
  rw [List.getD_eq_getElem?_getD, List.getD_eq_getElem?_getD, ← List.getElem?_take_of_lt hi, h.take, List.getElem?_take_of_lt hi]
theorem Front.part (h : Front l l') {a n : Nat} (ha : a + n ≤ 128) : (l'.drop a).take n = (l.drop a).take n := by
  have e : ∀ m : List UInt64, (m.drop a).take n = ((m.take 128).drop a).take n := fun m => by
    rw [List.drop_take, List.take_take, Nat.min_eq_left (by omega)]
  rw [e l', e l, h.take]
theorem Front.super (h : Front l l') : rErr l' = rErr l ∧ sT l' = sT l := by
  have h0 : c0 l' = c0 l := by have := h.part (a := 0) (n := 8) (by omega); rwa [List.drop_zero, List.drop_zero] at this
  have h1 : c1 l' = c1 l := h.part (a := 8) (n := 8) (by omega)
  have e0 : is0 l' = is0 l := by unfold is0; rw [h0, h.len]
  have e1 : is1 l' = is1 l := by unfold is1; rw [h1, h.len]
  have e2 : rErr l' = rErr l := by unfold rErr; rw [e0, e1, h.len]
  exact ⟨e2, by unfold sT one; rw [e2, e0, h0, h1]⟩
theorem Front.zr (h : Front l l') {a : Nat} (ha : a + 8 ≤ 128) : Zr l' a ↔ Zr l a := by
  unfold Zr
  constructor <;> intro hh i hi <;> have := hh i hi <;> rw [h.get (by omega)] at * <;> exact this
theorem Front.tab (h : Front l l') (n : Int) : tabErr l' n = tabErr l n ∧ tabT l' n = tabT l n := by
  have e0 : ∀ i, i < 8 → ta l' i = ta l i ∧ tb l' i = tb l i := fun i hi => by unfold ta tb; exact ⟨h.get (by omega), h.get (by omega)⟩
  have e : ∀ k, TysOk l' k ↔ TysOk l k := fun k => by
    unfold TysOk
    constructor <;> intro hh i hi <;> have := hh i hi <;> unfold TyOk at * <;> rw [(e0 i hi).1, (e0 i hi).2] at * <;> exact this
  have e2 : tabErr l' n = tabErr l n := by unfold tabErr; rw [h.len]; simp only [e]
  refine ⟨e2, ?_⟩
  unfold tabT
  rw [e2]
  by_cases h0 : tabErr l n = 0
  · rw [if_pos h0, if_pos h0]
    have hn : n.toNat ≤ 8 := by
      unfold tabErr at h0
      split at h0
      · split at h0
        · omega
        · omega
      · omega
    unfold tysTo
    refine List.map_congr_left fun i hi => ?_
    have := List.mem_range.1 hi
    rw [(e0 i (by omega)).1, (e0 i (by omega)).2]
  · rw [if_neg h0, if_neg h0]
theorem Front.open_ (h : Front l l') : openErr l' = openErr l ∧ slots l' = slots l := by
  have e : ws l' = ws l := h.part (a := 112) (n := 16) (by omega)
  refine ⟨?_, by unfold slots; rw [e]⟩
  have e2 : AllR l' ↔ AllR l := by unfold AllR; rw [e]
  unfold openErr; rw [h.len]; simp only [e2]
theorem Front.types (h : Front l l') : T19 l' = T19 l := by unfold T19; rw [h.super.2, (h.tab _).2]
/-- a right image whose heap is written anew -/
theorem Front.rt (f : Front l l') (h : Rt l) (ha : allErr l' = 0) (hg : ∀ b ∈ O19 l', Idle b ∧ Typed (T19 l) b ∧ Padded l' (T19 l) b ∧ FloatsB l' (T19 l) b ∧ RefsB l' (T19 l) (O19 l') b) (hs : SlotsGood (slots l) (O19 l')) : Rt l' := by
  refine ⟨by rw [f.len]; exact h.sz, f.super.1.trans h.tw, (f.zr (by omega)).2 h.z16, (f.zr (by omega)).2 h.z24, by rw [f.super.2, (f.tab _).1]; exact h.ty, f.open_.1.trans h.sl, ha, ?_, by rw [f.open_.2]; exact hs⟩
  intro i h1 h2 b hb
  rw [f.types]
  obtain ⟨g1, g2, g3, g4, g5⟩ := hg b hb
  rcases (show i = 7 ∨ i = 8 ∨ i = 9 ∨ i = 10 ∨ i = 11 by omega) with rfl | rfl | rfl | rfl | rfl
  · exact g1
  · exact g2
  · exact g3
  · exact g4
  · exact g5
theorem Front.refl (l : List UInt64) : Front l l := ⟨rfl, rfl⟩
theorem Front.trans {m : List UInt64} (h : Front l l') (h2 : Front l' m) : Front l m := ⟨h2.len.trans h.len, h2.take.trans h.take⟩
end
end Go.Proofs.Ytbfmdbeeiicabaa.L19
namespace Go.Proofs.Ytbfmdbeeiicabaa
open Go.RowKit L01 L02 L05 L06 L07 L13 L14 L15 L16 L18 L19
theorem free_snoc {L : List Hb} {b : Hb} : free (L ++ [b]) = free L ++ (if b.kind = 2 then [b] else []) := by
  rw [free_app]; congr 1
  unfold free
  by_cases h : b.kind = 2
  · rw [if_pos h, List.filter_cons_of_pos (by simpa using h)]; rfl
  · rw [if_neg h, List.filter_cons_of_neg (by simpa using h)]; rfl
set_option maxRecDepth 100000 in
set_option maxHeartbeats 1000000 in
theorem FreeW_any (v : Value) (l : List UInt64) (F : List Hb) (r : Int) (hF : F = freeL l) (hr : r = allErr l) (w : World) (h : Words w v l) :
    Calls Try.prog 16 #[v] w fun e w' => ∃ x, e = .returned (.tuple #[x, .int .i64 r]) ∧ OwnK w' w.heap.size x F ∧ Below w.heap.size w w' := by
  have B : Below w.heap.size w w := Below.refl _ _
  have H := Lib.hid h
  obtain ⟨L, hL⟩ : ∃ L, L = allL l := ⟨_, rfl⟩
  have WT := Lib.hid (fun w h => AllW_any v l L r hL hr w h)
  by_cases h0 : r = 0
  case neg =>
    have hF0 : F = [] := by rw [hF, freeL, allL, if_neg (by rw [← hr]; exact h0)]; rfl
    subst hF0
    have n1 : (r != 0) = true := by rw [bne_iff_ne]; exact h0
    clear hF hr h hL h0
    go_enter Try.func16, Try.ntmps16
    go_wp2_with fail
    refine (WT.out _ (H.out.below B)).mono ?_
    rintro e wa1 ⟨xl, rfl, ol, b⟩
    replace B := B.trans (b.mono B.size); clear b
    go_wp2
    go_ret2
    exact ⟨_, rfl, OwnK.nil _ _, B⟩
  case pos =>
    subst h0
    have hl9 : L.length ≤ 960 := by rw [hL]; exact all_len hr.symm
    have HF := Lib.hid (show F = free L by rw [hF, hL]; rfl)
    obtain ⟨N, hN⟩ : ∃ N, N = L.length := ⟨_, rfl⟩
    have HN := Lib.hid hN
    have hN9 : N ≤ 960 := by omega
    clear hF hr h hL hl9 hN
    go_enter Try.func16, Try.ntmps16
    go_wp2_with fail
    refine (WT.out _ (H.out.below B)).mono ?_
    rintro e wa1 ⟨xl, rfl, ol, b⟩
    replace B := B.trans (b.mono B.size); clear b
    have HO := Lib.hid ol.rd
    have lx := HO.out.len
    rw [← HN.out] at lx
    have hB1 := B.size
    have HB := Lib.hid (And.intro B hB1)
    have BB : Below wa1.heap.size wa1 wa1 := Below.refl _ _
    have HBB := Lib.hid BB
    clear ol B BB hB1
    go_wp2
    go_loopg [6, 19] N (fun g xv i wr => ∃ j : Nat, j ≤ N ∧ g = N - j ∧ i = .int .i64 j ∧ Hid (OwnK wr wa1.heap.size xv (free (L.take j)) ∧ Below wa1.heap.size wa1 wr))
    case atStart => exact ⟨0, by omega, by omega, rfl, Lib.hid ⟨by rw [List.take_zero]; exact OwnK.nil _ _, HBB.out⟩⟩
    case round =>
      obtain ⟨j, hj, rfl, rfl, hh⟩ := hrel
      clear HBB
      obtain ⟨o1, B⟩ := hh.out
      by_cases hlt : j < N
      · obtain ⟨bb, oo, b, ia, m0, m1, m2, m3, m4, m5, hb, _⟩ := (Blks.below HO.out B).at_ (k := j) (by rw [← HN.out]; exact hlt)
        have htk : L.take (j + 1) = L.take j ++ [b] := by rw [List.take_add_one, hb.out]; rfl
        have hsn := free_snoc (L := L.take j) (b := b)
        rw [← htk] at hsn
        have hB0 := B.size
        by_cases hk : b.kind = 2
        · rw [if_pos hk] at hsn
          have k1 : (b.kind == 2) = true := by rw [beq_iff_eq]; exact hk
          have HS := Lib.hid hsn
          have hol : (free (L.take j)).length ≤ j := Nat.le_trans (List.length_filter_le _ _) (by rw [List.length_take]; omega)
          clear hsn htk hk hb
          go_upto_region 8 with (fail)
          refine wp_gen (fun Wv => Bx Wv (wr.heap.size) (38) (#[.int .i64 b.at_, .int .i64 b.size, .int .i64 b.kind, .int .i64 b.ty, .bool b.mark, .int .u64 b.next.toNat]) ∧ Below wr.heap.size wr Wv) ⟨((Bx.at_ (by simp))), ((Below.refl _ wr).alloc (by simp <;> omega) _)⟩ ?_
          rintro wa2 ⟨g2, b⟩
          replace o1 := o1.below b; replace B := B.trans (b.mono B.size); clear b
          have c_g2 := g2.cell; have f_g2 := g2.free; have a_g2 := fun o => (g2.alloc o).cell; have d_g2 := fun o o2 => ((g2.alloc o).alloc o2).cell; have e_g2 := fun o => (g2.alloc o).free
          have hne := own_fresh o1
          go_wp2_with (at_builtin; refine wpList_append (by rfl) rfl rfl rfl Try.underlying26 info_block rfl (by omega) (by exact own_below o1 ((Below.refl _ _).alloc (Nat.le_refl _) _)) (by exact lit_block b (by simp)) (bkL_one b) (by omega) (by omega) (by exact B.alloc B.size _) (Nat.le_refl _) ?_; intro v1 w3 o3 B3 g3)
          have o4 : OwnK w3 wa1.heap.size v1 (free (L.take (j + 1))) := by rw [HS.out]; exact OwnK.of o3 (tabB_snoc _ b)
          have HZ := Lib.hid (And.intro o4 B3)
          go_roundg (N - (j + 1))
          case measure => omega
          case rel => exact ⟨j + 1, by omega, rfl, by go_num, HZ⟩
        · rw [if_neg hk, List.append_nil] at hsn
          have k1 : (b.kind == 2) = false := by rw [beq_eq_false_iff_ne]; exact hk
          have HS := Lib.hid hsn
          clear hsn htk hk hb
          go_upto_region 8 with (fail)
          refine wp_gen (fun Wv => Bx Wv (wr.heap.size) (38) (#[.int .i64 b.at_, .int .i64 b.size, .int .i64 b.kind, .int .i64 b.ty, .bool b.mark, .int .u64 b.next.toNat]) ∧ Below wr.heap.size wr Wv) ⟨((Bx.at_ (by simp))), ((Below.refl _ wr).alloc (by simp <;> omega) _)⟩ ?_
          rintro wa3 ⟨g2, b⟩
          replace o1 := o1.below b; replace B := B.trans (b.mono B.size); clear b
          have c_g2 := g2.cell; have f_g2 := g2.free; have a_g2 := fun o => (g2.alloc o).cell; have d_g2 := fun o o2 => ((g2.alloc o).alloc o2).cell; have e_g2 := fun o => (g2.alloc o).free
          have HZ := Lib.hid (And.intro o1 B)
          rw [← HS.out] at HZ
          go_wp2
          go_roundg (N - (j + 1))
          case measure => omega
          case rel => exact ⟨j + 1, by omega, rfl, by go_num, HZ⟩
      · obtain rfl : j = N := by omega
        have e : free (L.take j) = F := by rw [HF.out, HN.out, List.take_length]
        rw [e] at o1
        clear e
        obtain ⟨B0, hB1⟩ := HB.out
        have HBZ := Lib.hid (And.intro (o1.mono hB1) (B0.trans (B.mono hB1)))
        clear o1 B B0
        go_wp2
        go_ret2
        exact ⟨_, rfl, HBZ.out⟩
def anyU (S : List Sl) : Bool := S.any (·.used)
theorem closE_any (s : Sl) (w : World) : Calls Try.prog 78 #[.agg #[.int .i64 s.gen, .bool s.used, .int .i64 s.at_]] w fun e w' => e = .returned (.bool s.used) ∧ Below w.heap.size w w' := by
  have B : Below w.heap.size w w := Below.refl _ _
  obtain ⟨sg, su, sa⟩ := s
  dsimp only
  go_enter Try.func78, Try.ntmps78
  go_wp2
  go_ret
  refine ⟨rfl, ?_⟩
  (repeat (first | refine Below.setCell ?_ (by first | exact Nat.le_refl _ | (simp <;> omega)) _ | refine Below.alloc ?_ (by first | exact B.size | (have := B.size; simp <;> omega)) _)); exact B
set_option maxRecDepth 100000 in
set_option maxHeartbeats 1000000 in
theorem idxFun_any (v : Value) (S : List Sl) (w : World) (h : Slots w v S) (hl : S.length ≤ 1000000) :
    Calls Try.prog 115 #[v, .func (.func 78) #[] #[]] w fun e w' => ∃ r : Int, e = .returned (.int .i64 r) ∧ (r = -1 ∧ anyU S = false ∨ 0 ≤ r ∧ anyU S = true) ∧ Below w.heap.size w w' := by
  have B : Below w.heap.size w w := Below.refl _ _
  have H := Lib.hid h
  have lx := Rd.len h Try.underlying64
  obtain ⟨N, hN⟩ : ∃ N, N = S.length := ⟨_, rfl⟩
  rw [← hN] at lx hl
  have HN := Lib.hid hN
  have CL := Lib.hid closE_any
  have HB := Lib.hid B
  clear h hN B
  go_enter Try.func115, Try.ntmps115
  go_wp2
  go_loopg [8] N (fun g i wr => ∃ j : Nat, j ≤ N ∧ g = N - j ∧ i = .int .i64 j ∧ Hid (Below w.heap.size w wr ∧ ∀ i s, i < j → S[i]? = some s → s.used = false))
  case atStart => exact ⟨0, by omega, by omega, rfl, Lib.hid ⟨HB.out, fun i s hi => by omega⟩⟩
  case round =>
    obtain ⟨j, hj, rfl, rfl, hh⟩ := hrel
    clear HB
    obtain ⟨B, hz⟩ := hh.out
    have HZ := Lib.hid hz
    clear hz
    by_cases hlt : j < N
    · obtain ⟨bb, oo, s, it, m0, m1, m2, hs⟩ := (Slots.below H.out B).at_ (P := Try.prog) Try.underlying64 size_slot (k := j) (by rw [← HN.out]; exact hlt)
      obtain ⟨q, hq⟩ : ∃ q, q = s.used := ⟨_, rfl⟩
      have CL2 : Hid (∀ W, Calls Try.prog 78 #[.agg #[.int .i64 s.gen, .bool s.used, .int .i64 s.at_]] W fun e w' => e = .returned (.bool q) ∧ Below W.heap.size W w') := by rw [hq]; exact Lib.hid (CL.out s)
      have HS := Lib.hid (show S[j]? = some s ∧ q = s.used from ⟨hs.out, hq⟩)
      clear hs hq
      cases q
      · have HZ2 : Hid (∀ i s, i < j + 1 → S[i]? = some s → s.used = false) := Lib.hid (fun i s' hi hs' => by
          by_cases e : i = j
          · subst e; rw [HS.out.1] at hs'; injection hs' with hs'; subst hs'; exact HS.out.2.symm
          · exact HZ.out i s' (by omega) hs')
        go_wp2_with fail
        refine (CL2.out _).mono ?_
        rintro e w2 ⟨rfl, b⟩
        replace B := B.trans (b.mono B.size)
        have HB2 := Lib.hid (And.intro B HZ2.out)
        clear b B
        go_wp2
        go_roundg (N - (j + 1))
        case measure => omega
        case rel => exact ⟨j + 1, by omega, rfl, by go_num, HB2⟩
      · have hany : anyU S = true := by
          unfold anyU
          rw [List.any_eq_true]
          exact ⟨s, List.mem_of_getElem? HS.out.1, HS.out.2.symm⟩
        have HA := Lib.hid hany
        clear hany
        go_wp2_with fail
        refine (CL2.out _).mono ?_
        rintro e w2 ⟨rfl, b⟩
        replace B := B.trans (b.mono B.size)
        clear b
        go_wp2
        go_ret
        exact ⟨_, rfl, .inr ⟨by omega, HA.out⟩, B⟩
    · obtain rfl : j = N := by omega
      have hany : anyU S = false := by
        unfold anyU
        rw [List.any_eq_false]
        intro s hs
        obtain ⟨i, hi⟩ := List.getElem?_of_mem hs
        have := HZ.out i s (by have := (List.getElem?_eq_some_iff.1 hi).1; rw [HN.out]; exact this) hi
        rw [this]; decide
      have HA := Lib.hid hany
      clear hany
      go_wp2
      go_ret
      exact ⟨_, rfl, .inl ⟨rfl, HA.out⟩, B⟩
set_option maxRecDepth 100000 in
theorem anyFun_any (v : Value) (S : List Sl) (c : Bool) (hc : c = anyU S) (w : World) (h : Slots w v S) (hl : S.length ≤ 1000000) :
    Calls Try.prog 77 #[v, .func (.func 78) #[] #[]] w fun e w' => e = .returned (.bool c) ∧ Below w.heap.size w w' := by
  have IX := Lib.hid (idxFun_any v S w h hl)
  have HC := Lib.hid hc
  clear hc h
  go_enter Try.func77, Try.ntmps77
  go_wp2_with fail
  refine IX.out.mono ?_
  rintro e w2 ⟨r, rfl, hr, b⟩
  have HR := Lib.hid hr
  clear hr
  go_wp2
  go_ret
  refine ⟨ret_bool ?_, b⟩
  rw [HC.out]
  rcases HR.out with ⟨h1, h2⟩ | ⟨h1, h2⟩ <;> rw [h2] <;> simp <;> omega
end Go.Proofs.Ytbfmdbeeiicabaa
namespace Go.Proofs.Ytbfmdbeeiicabaa
open Go.RowKit L01 L02 L05 L06 L07 L13 L14 L15 L16 L18 L19
set_option maxRecDepth 100000 in
theorem SlotsR_any (v : Value) (l : List UInt64) (hs : SizeOk l.length) (L : List Sl) (hL : L = all l) (w : World) (h : Words w v l) :
    Calls Try.prog 48 #[v] w fun e w' => ∃ x, e = .returned x ∧ OwnS w' w.heap.size 68 x L ∧ Below w.heap.size w w' := by
  have T := Lib.hid (ToldR_any v l hs L _ hL rfl w h)
  clear hL h hs
  go_enter Try.func48, Try.ntmps48
  go_wp2_with fail
  refine T.out.mono ?_
  rintro e w2 ⟨x, rfl, o, b⟩
  have HO := Lib.hid (And.intro o b)
  clear o b
  go_wp2
  go_ret
  exact ⟨_, rfl, HO.out⟩
/-- the heap is one free extent -/
def whole (L : List Hb) : Bool := match L with | [b] => decide (b.kind = 2) | _ => false
def emp (l : List UInt64) : Bool := if chk19 l = 0 then whole (allL l) && !anyU (slots l) else false
theorem whole_one {l : List UInt64} (h : allErr l = 0) {f : Hb} (hF : freeL l = [f]) : (decide (f.at_ = 128) && decide (f.size = (l.length : Int) - 128)) = whole (allL l) := by
  have hu := fun b hb c hc => (all_apart h (a := b) (b := c) hb hc)
  obtain ⟨hseg, _⟩ := seg_of_all h
  unfold freeL at hF
  obtain ⟨L, hL⟩ : ∃ L, L = allL l := ⟨_, rfl⟩
  rw [← hL] at hF hseg hu ⊢
  have hfm : f ∈ free L := by rw [hF]; simp
  obtain ⟨hf, hk⟩ := free_mem.1 hfm
  match L, hF, hseg, hu, hf with
  | [b], hF, hseg, _, hf =>
    rw [List.mem_singleton] at hf; subst hf
    obtain ⟨h1, h2, _⟩ := hseg.one
    rw [decide_eq_true (show f.at_ = 128 by omega), decide_eq_true (show f.size = (l.length : Int) - 128 by omega)]
    show true = decide (f.kind = 2)
    rw [decide_eq_true hk]
  | b :: c :: L, hF, hseg, hu, hf =>
    have hw : whole (b :: c :: L) = false := rfl
    rw [hw, Bool.and_eq_false_iff, decide_eq_false_iff_not, decide_eq_false_iff_not]
    by_cases h1 : f.at_ = 128
    · right
      intro h2
      obtain ⟨b1, b2, _, _, b3, b4⟩ := hseg.head
      have hbb := b2.bounds
      have hfb : f = b := by
        rcases hu f hf b List.mem_cons_self with e | e | e
        · exact e
        · have := (hseg.bound hf).2.2; omega
        · omega
      subst hfb
      obtain ⟨c1, c2, _, _, c3, c4⟩ := b4.head
      have := b4.le
      have := c2.bounds
      have := c4.le
      omega
    · exact .inl h1
theorem whole_not {l : List UInt64} (hF : (freeL l).length ≠ 1) : whole (allL l) = false := by
  unfold freeL at hF
  unfold whole
  split
  · rename_i b e
    rw [e] at hF
    rw [decide_eq_false_iff_not]
    intro hk
    apply hF
    unfold free
    rw [List.filter_cons_of_pos (by simpa using hk)]; rfl
  · rfl
set_option maxRecDepth 100000 in
set_option maxHeartbeats 1000000 in
theorem Empty36_any (v : Value) (l : List UInt64) (b : Bool) (r : Int) (hb : b = emp l) (hr : r = chk19 l) (w : World) (h : Words w v l) :
    Calls Try.prog 40 #[v] w fun e w' => e = .returned (.tuple #[.bool b, .int .i64 r]) ∧ Below w.heap.size w w' := by
  have B : Below w.heap.size w w := Below.refl _ _
  have H := Lib.hid h
  have CK := Lib.hid (fun w h => Check19_any v l r hr w h)
  by_cases h0 : r = 0
  case neg =>
    have hb0 : b = false := by rw [hb, emp, if_neg (by rw [← hr]; exact h0)]
    subst hb0
    have n1 : (r != 0) = true := by rw [bne_iff_ne]; exact h0
    clear hb hr h h0
    go_enter Try.func40, Try.ntmps40
    go_wp2_with fail
    refine (CK.out _ (H.out.below B)).mono ?_
    rintro e wa1 ⟨rfl, b⟩
    replace B := B.trans (b.mono B.size); clear b
    go_wp2
    go_ret2
    exact ⟨rfl, B⟩
  case pos =>
    subst h0
    have rt : Rt l := Rt.of hr.symm
    have hl2 := rt.sz.2.1
    obtain ⟨F, hF⟩ : ∃ F, F = freeL l := ⟨_, rfl⟩
    obtain ⟨S, hS⟩ : ∃ S, S = slots l := ⟨_, rfl⟩
    have hS16 : S.length = 16 := by rw [hS]; exact slots_len' rt.sl
    have FT := Lib.hid (fun w h => FreeW_any v l F 0 hF rt.al.symm w h)
    have AT := Lib.hid (fun w h => All18_any v l S 0 (by rw [hS, all, if_pos rt.sl]) rt.sl.symm w h)
    obtain ⟨c, hc⟩ : ∃ c, c = anyU S := ⟨_, rfl⟩
    have AU := Lib.hid (fun x w (h : Slots w x S) => anyFun_any x S c hc w h (by omega))
    obtain ⟨N, hN⟩ : ∃ N, N = l.length := ⟨_, rfl⟩
    have lw := Rd.len h Try.underlying22
    rw [← hN] at lw
    have hwN : IntKind.i64.wrap ((N : Int) - 128) = (N : Int) - 128 := IntWalk.i64_in _ (by omega)
    have hbe : b = (whole (allL l) && !c) := by rw [hb, emp, if_pos hr.symm, hc, hS]
    by_cases h1 : F.length = 1
    case neg =>
      have hb0 : b = false := by rw [hbe, whole_not (by rw [← hF]; exact h1)]; rfl
      subst hb0
      have n1 : ((F.length : Int) == 1) = false := by rw [beq_eq_false_iff_ne]; omega
      obtain ⟨M, hM⟩ : ∃ M, M = F.length := ⟨_, rfl⟩
      rw [← hM] at n1
      have HM := Lib.hid hM
      clear hb hr h rt hl2 hF hS hS16 hc hN hbe h1 hM
      go_enter Try.func40, Try.ntmps40
      go_wp2_with fail
      refine (CK.out _ (H.out.below B)).mono ?_
      rintro e wa1 ⟨rfl, b⟩
      replace B := B.trans (b.mono B.size); clear b
      go_wp2_with fail
      refine (FT.out _ (H.out.below B)).mono ?_
      rintro e wa2 ⟨xf, rfl, of, b⟩
      replace B := B.trans (b.mono B.size); clear b
      go_wp2_with fail
      refine (AT.out _ (H.out.below B)).mono ?_
      rintro e wa3 ⟨xs, E, rfl, os, b⟩
      replace of := of.below b; replace B := B.trans (b.mono B.size); clear b
      have lf := of.rd.len
      rw [← HM.out] at lf
      go_wp2
      go_ret2
      exact ⟨rfl, B⟩
    case pos =>
      obtain ⟨f, hf⟩ := List.length_eq_one_iff.1 h1
      subst hf
      have hwo := whole_one rt.al hF.symm
      obtain ⟨p1, hp1⟩ : ∃ p, p = decide (f.at_ = 128) := ⟨_, rfl⟩
      obtain ⟨p2, hp2⟩ : ∃ p, p = decide (f.size = (l.length : Int) - 128) := ⟨_, rfl⟩
      rw [← hp1, ← hp2] at hwo
      have q1 : (f.at_ == 128) = p1 := by rw [hp1, Bool.eq_iff_iff, beq_iff_eq, decide_eq_true_iff]
      have q2 : (f.size == (N : Int) - 128) = p2 := by rw [hp2, ← hN, Bool.eq_iff_iff, beq_iff_eq, decide_eq_true_iff]
      rw [← hwo] at hbe
      have HBE := Lib.hid hbe
      clear hb hr h rt hl2 hF hS hS16 hc hN hbe h1 hp1 hp2 hwo
      go_enter Try.func40, Try.ntmps40
      go_wp2_with fail
      refine (CK.out _ (H.out.below B)).mono ?_
      rintro e wa1 ⟨rfl, b⟩
      replace B := B.trans (b.mono B.size); clear b
      go_wp2_with fail
      refine (FT.out _ (H.out.below B)).mono ?_
      rintro e wa2 ⟨xf, rfl, of, b⟩
      replace B := B.trans (b.mono B.size); clear b
      go_wp2_with fail
      refine (AT.out _ (H.out.below B)).mono ?_
      rintro e wa3 ⟨xs, E, rfl, os, b⟩
      replace of := of.below b; replace B := B.trans (b.mono B.size); clear b
      have lf := of.rd.len
      obtain ⟨bb, oo, f', ia, m0, m1, m2, m3, m4, m5, hf', _⟩ := of.rd.at_ (k := 0) (by simp)
      obtain rfl : f' = f := by have := hf'.out; simp at this; exact this.symm
      have ia0 : ∀ W, (Instr.indexAt 26 xf (.int .i64 0)).run Try.prog W = .ok (.pointer (some ⟨bb, oo, none⟩)) W := ia
      have HOS := Lib.hid os.rd
      clear ia of os hf'
      have lf1 : ∀ ty W, (Builtin.len_ #[26] ty #[xf]).run Try.prog W = .ok (.int .i64 1) W := lf
      clear lf
      cases p1 <;> cases p2
      all_goals try
        go_wp2
        go_ret2
        exact ⟨by rw [HBE.out]; rfl, B⟩
      · go_wp2_with fail
        refine (AU.out _ _ HOS.out).mono ?_
        rintro e w2 ⟨rfl, b2⟩
        replace B := B.trans (b2.mono B.size)
        go_wp2
        go_ret2
        refine ⟨?_, B⟩
        rw [HBE.out]; simp
set_option maxRecDepth 100000 in
set_option maxHeartbeats 1000000 in
theorem EmptyR36_any (v : Value) (l : List UInt64) (b : Bool) (r : Int) (hb : b = emp l) (hr : r = chk19 l) (w : World) (h : Words w v l) :
    Calls Try.prog 41 #[v] w fun e w' => e = .returned (.tuple #[.bool b, .int .i64 r]) ∧ Below w.heap.size w w' := by
  have B : Below w.heap.size w w := Below.refl _ _
  have H := Lib.hid h
  have CK := Lib.hid (fun w h => Check19R_any v l r hr w h)
  by_cases h0 : r = 0
  case neg =>
    have hb0 : b = false := by rw [hb, emp, if_neg (by rw [← hr]; exact h0)]
    subst hb0
    have n1 : (r != 0) = true := by rw [bne_iff_ne]; exact h0
    clear hb hr h h0
    go_enter Try.func41, Try.ntmps41
    go_wp2_with fail
    refine (CK.out _ (H.out.below B)).mono ?_
    rintro e wa1 ⟨rfl, b⟩
    replace B := B.trans (b.mono B.size); clear b
    go_wp2
    go_ret2
    exact ⟨rfl, B⟩
  case pos =>
    subst h0
    have rt : Rt l := Rt.of hr.symm
    obtain ⟨L, hL⟩ : ∃ L, L = allL l := ⟨_, rfl⟩
    obtain ⟨S, hS⟩ : ∃ S, S = slots l := ⟨_, rfl⟩
    have hS16 : S.length = 16 := by rw [hS]; exact slots_len' rt.sl
    have LT := Lib.hid (fun w h => ParsedR_any v l rt.sz L true hL (by rw [eq_comm, decide_eq_true_iff]; exact rt.al) w h)
    have AT := Lib.hid (fun w h => SlotsR_any v l rt.sz S (by rw [hS, all, if_pos rt.sl]) w h)
    have hbe : b = (whole L && !anyU S) := by rw [hb, emp, if_pos hr.symm, hL, hS]
    by_cases h1 : ∃ f, L = [f] ∧ f.kind = 2
    case neg =>
      have hw0 : whole L = false := by
        unfold whole
        split
        · rename_i f
          rw [decide_eq_false_iff_not]
          exact fun hk => h1 ⟨f, rfl, hk⟩
        · rfl
      have hb0 : b = false := by rw [hbe, hw0]; rfl
      subst hb0
      by_cases h2 : L.length = 1
      · obtain ⟨f, hf⟩ := List.length_eq_one_iff.1 h2
        subst hf
        have k1 : (f.kind != 2) = true := by rw [bne_iff_ne]; exact fun hk => h1 ⟨f, rfl, hk⟩
        clear hb hr h rt hL hS hS16 hbe h1 hw0 h2
        go_enter Try.func41, Try.ntmps41
        go_wp2_with fail
        refine (CK.out _ (H.out.below B)).mono ?_
        rintro e wa1 ⟨rfl, b⟩
        replace B := B.trans (b.mono B.size); clear b
        go_wp2_with fail
        refine (LT.out _ (H.out.below B)).mono ?_
        rintro e wa2 ⟨xf, rfl, of, b⟩
        replace B := B.trans (b.mono B.size); clear b
        have lf := of.rd.len
        obtain ⟨bb, oo, f', ia, m0, m1, m2, m3, m4, m5, hf', _⟩ := of.rd.at_ (k := 0) (by simp)
        obtain rfl : f' = f := by have := hf'.out; simp at this; exact this.symm
        have ia0 : ∀ W, (Instr.indexAt 26 xf (.int .i64 0)).run Try.prog W = .ok (.pointer (some ⟨bb, oo, none⟩)) W := ia
        clear ia of hf'
        have lf1 : ∀ ty W, (Builtin.len_ #[26] ty #[xf]).run Try.prog W = .ok (.int .i64 1) W := lf
        clear lf
        go_wp2
        go_ret2
        exact ⟨rfl, B⟩
      · obtain ⟨M, hM⟩ : ∃ M, M = L.length := ⟨_, rfl⟩
        have n1 : ((M : Int) != 1) = true := by rw [bne_iff_ne]; omega
        have HM := Lib.hid hM
        clear hb hr h rt hL hS hS16 hbe h1 hw0 h2 hM
        go_enter Try.func41, Try.ntmps41
        go_wp2_with fail
        refine (CK.out _ (H.out.below B)).mono ?_
        rintro e wa1 ⟨rfl, b⟩
        replace B := B.trans (b.mono B.size); clear b
        go_wp2_with fail
        refine (LT.out _ (H.out.below B)).mono ?_
        rintro e wa2 ⟨xf, rfl, of, b⟩
        replace B := B.trans (b.mono B.size); clear b
        have lf := of.rd.len
        rw [← HM.out] at lf
        go_wp2
        go_ret2
        exact ⟨rfl, B⟩
    case pos =>
      obtain ⟨f, hf, hk⟩ := h1
      subst hf
      have k1 : (f.kind != 2) = false := by rw [bne_eq_false_iff_eq]; exact hk
      have hwt : whole [f] = true := by unfold whole; exact decide_eq_true hk
      have hb2 : b = !anyU S := by rw [hbe, hwt]; rfl
      have HB2 := Lib.hid hb2; have HS16 := Lib.hid hS16
      clear hb hr h rt hL hS hbe hk hwt hb2 hS16
      go_enter Try.func41, Try.ntmps41
      go_wp2_with fail
      refine (CK.out _ (H.out.below B)).mono ?_
      rintro e wa1 ⟨rfl, b⟩
      replace B := B.trans (b.mono B.size); clear b
      go_wp2_with fail
      refine (LT.out _ (H.out.below B)).mono ?_
      rintro e wa2 ⟨xf, rfl, of, b⟩
      replace B := B.trans (b.mono B.size); clear b
      have lf := of.rd.len
      obtain ⟨bb, oo, f', ia, m0, m1, m2, m3, m4, m5, hf', _⟩ := of.rd.at_ (k := 0) (by simp)
      obtain rfl : f' = f := by have := hf'.out; simp at this; exact this.symm
      have ia0 : ∀ W, (Instr.indexAt 26 xf (.int .i64 0)).run Try.prog W = .ok (.pointer (some ⟨bb, oo, none⟩)) W := ia
      clear ia of hf'
      have lf1 : ∀ ty W, (Builtin.len_ #[26] ty #[xf]).run Try.prog W = .ok (.int .i64 1) W := lf
      clear lf
      go_wp2_with fail
      refine (AT.out _ (H.out.below B)).mono ?_
      rintro e w3 ⟨xs, rfl, os, b3⟩
      have HS := Lib.hid os.rd
      have ls := Rd.len HS.out Try.underlying64
      rw [HS16.out] at ls
      have ls1 : ∀ ty W, (Builtin.len_ #[64] ty #[xs]).run Try.prog W = .ok (.int .i64 16) W := ls
      replace B := B.trans (b3.mono B.size)
      clear b3 os ls lf1 ia0 m0 m1 m2 m3 m4 m5
      go_wp2
      go_loopg [8] 16 (fun g i wr => ∃ j : Nat, j ≤ 16 ∧ g = 16 - j ∧ i = .int .i64 j ∧ wr = w3 ∧ Hid (∀ i s, i < j → S[i]? = some s → s.used = false))
      case atStart => exact ⟨0, by omega, by omega, rfl, rfl, Lib.hid (fun i s hi => by omega)⟩
      case round =>
        obtain ⟨j, hj, rfl, rfl, rfl, HZ⟩ := hrel
        by_cases hlt : j < 16
        · obtain ⟨b8, o8, s, it, c0, c1, c2, hs⟩ := HS.out.at_ (P := Try.prog) Try.underlying64 size_slot (k := j) (by rw [HS16.out]; exact hlt)
          have HSS := Lib.hid hs.out
          obtain ⟨sg, su, sa⟩ := s
          dsimp only at *
          cases su
          · have HZ2 : Hid (∀ i s, i < j + 1 → S[i]? = some s → s.used = false) := Lib.hid (fun i s' hi hs' => by
              by_cases e : i = j
              · subst e; rw [HSS.out] at hs'; injection hs' with hs'; subst hs'; rfl
              · exact HZ.out i s' (by omega) hs')
            clear hs
            go_wp2
            go_roundg (16 - (j + 1))
            case measure => omega
            case rel => exact ⟨j + 1, by omega, rfl, by go_num, rfl, HZ2⟩
          · have hany : anyU S = true := by
              unfold anyU
              rw [List.any_eq_true]
              exact ⟨_, List.mem_of_getElem? HSS.out, rfl⟩
            have HA := Lib.hid hany
            clear hany hs
            go_wp2
            go_ret2
            exact ⟨by rw [HB2.out, HA.out]; rfl, B⟩
        · obtain rfl : j = 16 := by omega
          have hany : anyU S = false := by
            unfold anyU
            rw [List.any_eq_false]
            intro s hs
            obtain ⟨i, hi⟩ := List.getElem?_of_mem hs
            have := HZ.out i s (by have := (List.getElem?_eq_some_iff.1 hi).1; rw [HS16.out] at this; exact this) hi
            rw [this]; decide
          have HA := Lib.hid hany
          clear hany
          go_wp2
          go_ret2
          exact ⟨by rw [HB2.out, HA.out]; rfl, B⟩
end Go.Proofs.Ytbfmdbeeiicabaa
namespace Go.Proofs.Ytbfmdbeeiicabaa
open Go.RowKit L02
def RetW (w : World) (l : List UInt64) (e : Ending) (w' : World) : Prop := ∃ v, e = .returned v ∧ OwnW w' w.heap.size 34 v l ∧ Below w.heap.size w w'
theorem Twin_any (v : Value) (l : List UInt64) (w : World) (h : Words w v l) (hl : l.length ≤ 1048576) : Calls Try.prog 26 #[v] w (RetW w l) := by
  have H := Lib.hid h; clear h
  go_enter Try.func26, Try.ntmps26
  go_wp2_with (at_builtin
               refine wpList_append (by rfl) rfl rfl rfl Try.underlying22 info_u64 rfl (by omega) (lit0_own (Nat.le_refl _)) (by exact H.out.alloc _) (one_u64s _) (by omega) (by omega) ((Below.refl _ w).alloc (Nat.le_refl _) _) (Nat.le_refl _) ?_
               intro v1 w1 hown hbel hv)
  go_ret
  exact ⟨v1, rfl, OwnW.of hown (by simp), hbel⟩
end Go.Proofs.Ytbfmdbeeiicabaa
namespace Go.Proofs.Ytbfmdbeeiicabaa
open Go.RowKit L02 L05 L13 L19
theorem FormatEmpty_walk (v0 : Value) (l : List UInt64) (w : World) (h0 : Words w v0 l) :
    Calls Try.prog 9 #[v0] w fun e w' => e = .returned (.bool true) ∧ Below w.heap.size w w' := by
  have B : Below w.heap.size w w := Below.refl _ _
  have H := Lib.hid h0; clear h0
  by_cases hg : 2100 < l.length
  · have G := Great_any v0 l
    rw [decide_eq_true hg] at G
    have HG := Lib.hid G; clear G
    go_enter Try.func9, Try.ntmps9
    go_wp2_with fail
    refine (HG.out _ H.out).mono ?_
    rintro e w2 ⟨rfl, rfl⟩
    go_wp2
    go_ret
    exact ⟨rfl, B⟩
  · have G := Great_any v0 l
    rw [decide_eq_false hg] at G
    have HG := Lib.hid G; clear G
    have hl : l.length ≤ 1048576 := by omega
    have HL := Lib.hid hl; clear hl hg
    obtain ⟨n, hn⟩ : ∃ n, n = emp l := ⟨_, rfl⟩
    obtain ⟨c, hc⟩ : ∃ c, c = chk19 l := ⟨_, rfl⟩
    have T1 := Lib.hid (fun v w h => Empty36_any v l n c hn hc w h)
    have T2 := Lib.hid (fun w h => EmptyR36_any v0 l n c hn hc w h)
    clear hn hc
    go_enter Try.func9, Try.ntmps9
    go_wp2_with fail
    refine (HG.out _ H.out).mono ?_
    rintro e w2 ⟨rfl, rfl⟩
    go_wp2_with fail
    refine (Twin_any v0 l _ H.out HL.out).mono ?_
    rintro e w2 ⟨y, rfl, oy, b⟩
    replace B := B.trans (b.mono B.size); clear b
    have HY := Lib.hid oy; clear oy
    go_wp2_with fail
    refine (T1.out _ _ HY.out.rd).mono ?_
    rintro e w3 ⟨rfl, b⟩
    replace B := B.trans (b.mono B.size)
    replace HY := Lib.hid (HY.out.below b)
    clear b
    go_wp2_with fail
    refine (T2.out _ (H.out.below B)).mono ?_
    rintro e w4 ⟨rfl, b⟩
    replace B := B.trans (b.mono B.size)
    replace HY := Lib.hid (HY.out.below b)
    clear b
    go_wp2_with fail
    refine (Same_r y v0 l l true (by simp [L02.same]) _ HY.out.rd (H.out.below B)).mono ?_
    rintro e w7 ⟨rfl, b⟩
    replace B := B.trans (b.mono B.size)
    go_wp2
    go_ret
    exact ⟨rfl, B⟩
end Go.Proofs.Ytbfmdbeeiicabaa
