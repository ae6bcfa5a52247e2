/- Contracts of the two copies of the superblock: the reference's Read; View. -/
import Derived.Test.YtcfohfphhpmmdaaC07
set_option linter.unusedVariables false
set_option linter.unusedSimpArgs false
namespace Go.Proofs.Ytcfohfphhpmmdaa
open Go.RowKit L02 L05 L06 L07

set_option maxHeartbeats 2000000 in
theorem TCopyR_any (v : Value) (m : List UInt64) (hs : SizeOk m.length) (k : Int) (l : List UInt64) (hk : k = 0 ∧ l = c0 m ∨ k = 1 ∧ l = c1 m) (W T : Int) (b : Bool) (hb : b = decide (CopyOk m.length l)) (hW : W = if CopyOk m.length l then (m.length : Int) else 0) (hT : T = if CopyOk m.length l then at3 l else 0) (w : World) (h : Words w v m) :
    Calls Try.prog 29 #[v, .int .i64 k] w fun e w' => e = .returned (.tuple #[.agg #[.int .i64 W, .int .i64 T], .bool b]) ∧ Below w.heap.size w w' := by
  have B : Below w.heap.size w w := Below.refl _ _
  have hn := hs.1
  have l1 := Rd.len h Try.underlying22
  have hl : l.length = 8 := by rcases hk with ⟨_, rfl⟩ | ⟨_, rfl⟩; exact c0_len hs; exact c1_len hs
  have sl : ∃ v', (∀ W, (Instr.sliceAt 22 v (some (.int .i64 (8 * k))) (some (.int .i64 (8 * k + 8))) none).run Try.prog W = .ok v' W) ∧ Words w v' l := by
    rcases hk with ⟨rfl, rfl⟩ | ⟨rfl, rfl⟩
    · exact h.cut (P := Try.prog) Try.underlying22 one_u64 (lo := 0) (hi := 8) (by omega) (by omega) (by omega)
    · exact h.cut (P := Try.prog) Try.underlying22 one_u64 (lo := 8) (hi := 16) (by omega) (by omega) (by omega)
  obtain ⟨v', sl', hv'⟩ := sl
  obtain ⟨a0, ha0⟩ : ∃ x, x = rdW l := ⟨_, rfl⟩
  obtain ⟨t0, ht0⟩ : ∃ x, x = rdT l := ⟨_, rfl⟩
  obtain ⟨e0, he0⟩ : ∃ x, x = rdErr l := ⟨_, rfl⟩
  have R0 := Lib.hid (fun w h => Read6R_r v' l (by omega) a0 t0 e0 ha0 ht0 he0 w h)
  obtain ⟨n, hnn⟩ : ∃ n, n = m.length := ⟨_, rfl⟩
  rw [← hnn] at l1
  have K : (e0 = 0 ∧ (a0 != (n : Int)) = false ∧ b = true ∧ W = a0 ∧ T = t0) ∨ (e0 = 0 ∧ (a0 != (n : Int)) = true ∧ b = false ∧ W = 0 ∧ T = 0) ∨ ((e0 != 0) = true ∧ b = false ∧ W = 0 ∧ T = 0) := by
    by_cases hg : CopyOk m.length l
    · obtain ⟨g1, g2⟩ := (good_rd hl).1 hg
      rw [if_pos hg] at hW hT
      exact .inl ⟨by rw [he0]; exact g1, by rw [bne_eq_false_iff_eq, ha0, g2, hnn], by rw [hb]; exact decide_eq_true hg, by rw [hW, ha0, g2], by rw [hT, ht0, (rd_ok3 hg.1).2]⟩
    · rw [if_neg hg] at hW hT
      rw [decide_eq_false hg] at hb
      by_cases h0 : e0 = 0
      · refine .inr (.inl ⟨h0, ?_, hb, hW, hT⟩)
        rw [bne_iff_ne]; intro ha; exact hg ((good_rd hl).2 ⟨by rw [← he0]; exact h0, by rw [← ha0, ha, hnn]⟩)
      · exact .inr (.inr ⟨by rw [bne_iff_ne]; exact h0, hb, hW, hT⟩)
  have hk2 : 0 ≤ k ∧ k ≤ 1 := by omega
  have w1 : IntKind.i64.wrap (8 * k) = 8 * k := IntWalk.i64_in _ (by omega)
  have w2 : IntKind.i64.wrap (8 * k + 8) = 8 * k + 8 := IntWalk.i64_in _ (by omega)
  have HV := Lib.hid hv'
  clear h hs hk hb hW hT hl hv' ha0 ht0 he0 hnn hn hk2
  rcases K with ⟨rfl, hq, rfl, rfl, rfl⟩ | ⟨rfl, hq, rfl, rfl, rfl⟩ | ⟨hq, rfl, rfl, rfl⟩
  all_goals
    go_enter Try.func29, Try.ntmps29
    go_upto_region 1 with (fail)
    refine wp_gen (fun Wv => Bx Wv (w.heap.size) (26) (#[.int .i64 0, .int .i64 0]) ∧ Below w.heap.size w Wv) ⟨((Bx.at_ (by simp))), ((Below.refl _ w).alloc (by simp <;> omega) _)⟩ ?_
    rintro wa1 ⟨g4, b⟩
    replace B := B.trans (b.mono B.size); clear b
    have c_g4 := g4.cell; have f_g4 := g4.free; have a_g4 := fun o => (g4.alloc o).cell; have d_g4 := fun o o2 => ((g4.alloc o).alloc o2).cell; have e_g4 := fun o => (g4.alloc o).free
    go_wp2_with fail
    refine (R0.out _ (HV.out.below B)).mono ?_
    rintro e wx ⟨rfl, b⟩
    clear c_g4 f_g4 a_g4 d_g4 e_g4
    replace g4 := g4.below b; replace B := B.trans (b.mono B.size); clear b
    have c_g4 := g4.cell; have f_g4 := g4.free; have a_g4 := fun o => (g4.alloc o).cell; have e_g4 := fun o => (g4.alloc o).free
    go_wp2
    refine bodyPost_ret (by simp [results, Try.results29, go_sem, c_g4, f_g4, a_g4, e_g4]) rfl ⟨rfl, ?_⟩
    (repeat (first | refine Below.setCell ?_ (by first | exact Nat.le_refl _ | (simp <;> omega)) _ | refine Below.alloc ?_ (by first | exact B.size | (have := B.size; simp <;> omega)) _)); exact B

set_option maxHeartbeats 2000000 in
theorem TReadR_any (v : Value) (m : List UInt64) (W T : Int) (b0 b1 : Bool) (r : Int) (hW : W = sW m) (hT : T = sT m) (h0 : b0 = is0 m) (h1 : b1 = is1 m) (hr : r = rErr m) (w : World) (h : Words w v m) :
    Calls Try.prog 12 #[v] w fun e w' => e = .returned (.tuple #[.agg #[.int .i64 W, .int .i64 T], .agg #[.bool b0, .bool b1], .int .i64 r]) ∧ Below w.heap.size w w' := by
  have B : Below w.heap.size w w := Below.refl _ _
  have CT := fun w h => CheckR_any v m w h
  by_cases hs : SizeOk m.length
  rotate_left
  · rw [chk_no hs] at CT
    obtain rfl : W = 0 := by rw [hW, sW, if_neg (by rw [rErr_no hs]; omega)]
    obtain rfl : T = 0 := by rw [hT, sT, if_neg (by rw [rErr_no hs]; omega)]
    obtain rfl : b0 = false := by rw [h0, is0_no hs]
    obtain rfl : b1 = false := by rw [h1, is1_no hs]
    obtain rfl : r = 8 := by rw [hr, rErr_no hs]
    have HC := Lib.hid CT; have H := Lib.hid h; clear CT h hs hW hT h0 h1 hr
    go_enter Try.func12, Try.ntmps12
    go_upto_region 1 with (fail)
    refine wp_gen (fun Wv => Bx Wv (w.heap.size) (26) (#[.int .i64 0, .int .i64 0]) ∧ Bx Wv (w.heap.size + 1) (27) (#[.bool false, .bool false]) ∧ Below w.heap.size w Wv) ⟨(((Bx.at_ (by simp)).alloc _)), ((Bx.at_ (by simp))), (((Below.refl _ w).alloc (by simp <;> omega) _).alloc (by simp <;> omega) _)⟩ ?_
    rintro w' ⟨g2, g3, b⟩
    replace B := B.trans (b.mono B.size); clear b
    have c_g2 := g2.cell; have f_g2 := g2.free; have a_g2 := fun o => (g2.alloc o).cell; have d_g2 := fun o o2 => ((g2.alloc o).alloc o2).cell; have e_g2 := fun o => (g2.alloc o).free
    have c_g3 := g3.cell; have f_g3 := g3.free; have a_g3 := fun o => (g3.alloc o).cell; have d_g3 := fun o o2 => ((g3.alloc o).alloc o2).cell; have e_g3 := fun o => (g3.alloc o).free
    go_wp2_with fail
    refine (HC.out _ (H.out.below B)).mono ?_
    rintro e w' ⟨rfl, rfl⟩
    go_wp2
    refine bodyPost_ret (v := .tuple #[.agg #[.int .i64 0, .int .i64 0], .agg #[.bool false, .bool false], .int .i64 8]) (by simp [results, Try.results12, go_sem, c_g2, f_g2, a_g2, e_g2, c_g3, f_g3, a_g3, e_g3]) rfl ?_
    exact ⟨rfl, by (repeat (first | refine Below.setCell ?_ (by first | exact Nat.le_refl _ | (simp <;> omega)) _ | refine Below.alloc ?_ (by first | exact B.size | (have := B.size; simp <;> omega)) _)); exact B⟩
  rw [chk_ok hs] at CT
  obtain ⟨a0, ha0⟩ : ∃ x, x = (if CopyOk m.length (c0 m) then (m.length : Int) else 0) := ⟨_, rfl⟩
  obtain ⟨t0, ht0⟩ : ∃ x, x = (if CopyOk m.length (c0 m) then at3 (c0 m) else 0) := ⟨_, rfl⟩
  obtain ⟨a1, ha1⟩ : ∃ x, x = (if CopyOk m.length (c1 m) then (m.length : Int) else 0) := ⟨_, rfl⟩
  obtain ⟨t1, ht1⟩ : ∃ x, x = (if CopyOk m.length (c1 m) then at3 (c1 m) else 0) := ⟨_, rfl⟩
  have R0 := Lib.hid (fun w h => TCopyR_any v m hs 0 (c0 m) (.inl ⟨rfl, rfl⟩) a0 t0 b0 (by rw [h0, is0_good hs]) ha0 ht0 w h)
  have R1 := Lib.hid (fun w h => TCopyR_any v m hs 1 (c1 m) (.inr ⟨rfl, rfl⟩) a1 t1 b1 (by rw [h1, is1_good hs]) ha1 ht1 w h)
  have F0 : b0 = true → W = a0 ∧ T = t0 ∧ r = 0 := by
    intro h
    have hi : is0 m = true := by rw [← h0]; exact h
    have hr0 := rErr_mk hs (.inl hi)
    have hg : CopyOk m.length (c0 m) := (of_decide_eq_true hi).2
    have ho : one m = c0 m := if_pos hi
    exact ⟨by rw [hW, sW, if_pos hr0, ha0, if_pos hg], by rw [hT, sT, if_pos hr0, ht0, if_pos hg, ho], by rw [hr, hr0]⟩
  have F1 : b0 = false → b1 = true → W = a1 ∧ T = t1 ∧ r = 0 := by
    intro h h'
    have hi : is1 m = true := by rw [← h1]; exact h'
    have hi0 : is0 m = false := by rw [← h0]; exact h
    have hr0 := rErr_mk hs (.inr hi)
    have hg : CopyOk m.length (c1 m) := (of_decide_eq_true hi).2
    have ho : one m = c1 m := if_neg (by simp [hi0])
    exact ⟨by rw [hW, sW, if_pos hr0, ha1, if_pos hg], by rw [hT, sT, if_pos hr0, ht1, if_pos hg, ho], by rw [hr, hr0]⟩
  have F2 : b0 = false → b1 = false → W = 0 ∧ T = 0 ∧ r = 50 := by
    intro h h'
    have hr0 := rErr_50 hs (by rw [← h0]; exact h) (by rw [← h1]; exact h')
    exact ⟨by rw [hW, sW, if_neg (by rw [hr0]; omega)], by rw [hT, sT, if_neg (by rw [hr0]; omega)], by rw [hr, hr0]⟩
  have KK : (b0 = true ∧ a0 = W ∧ t0 = T ∧ r = 0) ∨ (b0 = false ∧ b1 = true ∧ a1 = W ∧ t1 = T ∧ r = 0) ∨ (b0 = false ∧ b1 = false ∧ W = 0 ∧ T = 0 ∧ r = 50) := by
    cases b0
    · cases b1
      · exact .inr (.inr ⟨rfl, rfl, F2 rfl rfl⟩)
      · exact .inr (.inl ⟨rfl, rfl, (F1 rfl rfl).1.symm, (F1 rfl rfl).2.1.symm, (F1 rfl rfl).2.2⟩)
    · exact .inl ⟨rfl, (F0 rfl).1.symm, (F0 rfl).2.1.symm, (F0 rfl).2.2⟩
  have HC := Lib.hid CT; have H := Lib.hid h
  clear CT h hs hW hT h0 h1 hr ha0 ht0 ha1 ht1 F0 F1 F2
  rcases KK with ⟨rfl, rfl, rfl, rfl⟩ | ⟨rfl, rfl, rfl, rfl, rfl⟩ | ⟨rfl, rfl, rfl, rfl, rfl⟩
  all_goals
    go_enter Try.func12, Try.ntmps12
    go_upto_region 1 with (fail)
    refine wp_gen (fun Wv => Bx Wv (w.heap.size) (26) (#[.int .i64 0, .int .i64 0]) ∧ Bx Wv (w.heap.size + 1) (27) (#[.bool false, .bool false]) ∧ Below w.heap.size w Wv) ⟨(((Bx.at_ (by simp)).alloc _)), ((Bx.at_ (by simp))), (((Below.refl _ w).alloc (by simp <;> omega) _).alloc (by simp <;> omega) _)⟩ ?_
    rintro wa1 ⟨g2, g3, b⟩
    replace B := B.trans (b.mono B.size); clear b
    have c_g2 := g2.cell; have f_g2 := g2.free; have a_g2 := fun o => (g2.alloc o).cell; have d_g2 := fun o o2 => ((g2.alloc o).alloc o2).cell; have e_g2 := fun o => (g2.alloc o).free
    have c_g3 := g3.cell; have f_g3 := g3.free; have a_g3 := fun o => (g3.alloc o).cell; have d_g3 := fun o o2 => ((g3.alloc o).alloc o2).cell; have e_g3 := fun o => (g3.alloc o).free
    go_wp2_with fail
    refine (HC.out _ (H.out.below B)).mono ?_
    rintro e w' ⟨rfl, rfl⟩
    go_wp2_with fail
    refine (R0.out _ (H.out.below B)).mono ?_
    rintro e wa2 ⟨rfl, b⟩
    try clear c_g2 f_g2 a_g2 d_g2 e_g2
    replace g2 := g2.below b; have c_g2 := g2.cell; have f_g2 := g2.free; have a_g2 := fun o => (g2.alloc o).cell; have d_g2 := fun o o2 => ((g2.alloc o).alloc o2).cell; have e_g2 := fun o => (g2.alloc o).free; try clear c_g3 f_g3 a_g3 d_g3 e_g3
    replace g3 := g3.below b; have c_g3 := g3.cell; have f_g3 := g3.free; have a_g3 := fun o => (g3.alloc o).cell; have d_g3 := fun o o2 => ((g3.alloc o).alloc o2).cell; have e_g3 := fun o => (g3.alloc o).free; replace B := B.trans (b.mono B.size); clear b
    go_upto_region 4 with (fail)
    refine wp_gen (fun Wv => Bx Wv (wa2.heap.size) (26) (#[.int .i64 a0, .int .i64 t0]) ∧ Below wa2.heap.size wa2 Wv) ⟨((Bx.at_ (by simp))), ((Below.refl _ wa2).alloc (by simp <;> omega) _)⟩ ?_
    rintro wa3 ⟨g5, b⟩
    try clear c_g2 f_g2 a_g2 d_g2 e_g2
    replace g2 := g2.below b; have c_g2 := g2.cell; have f_g2 := g2.free; have a_g2 := fun o => (g2.alloc o).cell; have d_g2 := fun o o2 => ((g2.alloc o).alloc o2).cell; have e_g2 := fun o => (g2.alloc o).free; try clear c_g3 f_g3 a_g3 d_g3 e_g3
    replace g3 := g3.below b; have c_g3 := g3.cell; have f_g3 := g3.free; have a_g3 := fun o => (g3.alloc o).cell; have d_g3 := fun o o2 => ((g3.alloc o).alloc o2).cell; have e_g3 := fun o => (g3.alloc o).free; replace B := B.trans (b.mono B.size); clear b
    have c_g5 := g5.cell; have f_g5 := g5.free; have a_g5 := fun o => (g5.alloc o).cell; have d_g5 := fun o o2 => ((g5.alloc o).alloc o2).cell; have e_g5 := fun o => (g5.alloc o).free
    go_wp2_with fail
    refine (R1.out _ (H.out.below B)).mono ?_
    rintro e wa4 ⟨rfl, b⟩
    try clear c_g2 f_g2 a_g2 d_g2 e_g2
    replace g2 := g2.below b; have c_g2 := g2.cell; have f_g2 := g2.free; have a_g2 := fun o => (g2.alloc o).cell; have d_g2 := fun o o2 => ((g2.alloc o).alloc o2).cell; have e_g2 := fun o => (g2.alloc o).free; try clear c_g3 f_g3 a_g3 d_g3 e_g3
    replace g3 := g3.below b; have c_g3 := g3.cell; have f_g3 := g3.free; have a_g3 := fun o => (g3.alloc o).cell; have d_g3 := fun o o2 => ((g3.alloc o).alloc o2).cell; have e_g3 := fun o => (g3.alloc o).free; try clear c_g5 f_g5 a_g5 d_g5 e_g5
    replace g5 := g5.below b; have c_g5 := g5.cell; have f_g5 := g5.free; have a_g5 := fun o => (g5.alloc o).cell; have d_g5 := fun o o2 => ((g5.alloc o).alloc o2).cell; have e_g5 := fun o => (g5.alloc o).free; replace B := B.trans (b.mono B.size); clear b
    go_upto_region 5 with (fail)
    refine wp_gen (fun Wv => Bx Wv (wa4.heap.size) (26) (#[.int .i64 a1, .int .i64 t1]) ∧ Below wa4.heap.size wa4 Wv) ⟨((Bx.at_ (by simp))), ((Below.refl _ wa4).alloc (by simp <;> omega) _)⟩ ?_
    rintro wa5 ⟨g7, b⟩
    try clear c_g2 f_g2 a_g2 d_g2 e_g2
    replace g2 := g2.below b; have c_g2 := g2.cell; have f_g2 := g2.free; have a_g2 := fun o => (g2.alloc o).cell; have d_g2 := fun o o2 => ((g2.alloc o).alloc o2).cell; have e_g2 := fun o => (g2.alloc o).free; try clear c_g3 f_g3 a_g3 d_g3 e_g3
    replace g3 := g3.below b; have c_g3 := g3.cell; have f_g3 := g3.free; have a_g3 := fun o => (g3.alloc o).cell; have d_g3 := fun o o2 => ((g3.alloc o).alloc o2).cell; have e_g3 := fun o => (g3.alloc o).free; try clear c_g5 f_g5 a_g5 d_g5 e_g5
    replace g5 := g5.below b; have c_g5 := g5.cell; have f_g5 := g5.free; have a_g5 := fun o => (g5.alloc o).cell; have d_g5 := fun o o2 => ((g5.alloc o).alloc o2).cell; have e_g5 := fun o => (g5.alloc o).free; replace B := B.trans (b.mono B.size); clear b
    have c_g7 := g7.cell; have f_g7 := g7.free; have a_g7 := fun o => (g7.alloc o).cell; have d_g7 := fun o o2 => ((g7.alloc o).alloc o2).cell; have e_g7 := fun o => (g7.alloc o).free
    go_wp2
    refine bodyPost_ret (by simp [results, Try.results12, go_sem, c_g2, f_g2, a_g2, e_g2, c_g3, f_g3, a_g3, e_g3]) rfl ⟨rfl, ?_⟩
    (repeat (first | refine Below.setCell ?_ (by first | exact Nat.le_refl _ | (simp <;> omega)) _ | refine Below.alloc ?_ (by first | exact B.size | (have := B.size; simp <;> omega)) _)); exact B
end Go.Proofs.Ytcfohfphhpmmdaa
