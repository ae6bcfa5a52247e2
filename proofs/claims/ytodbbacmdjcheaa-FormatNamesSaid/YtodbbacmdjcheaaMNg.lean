/- Contracts of the functions that the laws 'N' reach, part 7. No condition. -/
import Derived.Test.YtodbbacmdjcheaaMNe
import Derived.Test.YtodbbacmdjcheaaMNf
set_option linter.unusedVariables false
set_option linter.unusedSimpArgs false
namespace Go.Proofs.Ytodbbacmdjcheaa
open Go.RowKit L02 L05 L06 L07
theorem starts_any (w : World) : Calls Try.prog 68 #[] w fun e w' => e = .returned (.agg #[.int .i64 0, .int .i64 8]) ∧ Below w.heap.size w w' := by
  have B : Below w.heap.size w w := Below.refl _ _
  go_enter Try.func68, Try.ntmps68
  go_upto_region 1 with (fail)
  refine wp_gen (fun Wv => Bx Wv (w.heap.size) (141) (#[.int .i64 0, .int .i64 0]) ∧ Below w.heap.size w Wv) ⟨((Bx.at_ (by simp))), ((Below.refl _ w).alloc (by simp <;> omega) _)⟩ ?_
  rintro w' ⟨g1, b⟩
  replace B := B.trans (b.mono B.size); clear b
  have c_g1 := g1.cell; have f_g1 := g1.free; have a_g1 := fun o => (g1.alloc o).cell; have d_g1 := fun o o2 => ((g1.alloc o).alloc o2).cell; have e_g1 := fun o => (g1.alloc o).free
  go_wp2
  refine bodyPost_ret (v := .agg #[.int .i64 0, .int .i64 8]) (by simp [results, Try.results68, go_sem, c_g1, f_g1, a_g1, e_g1]) rfl ?_
  exact ⟨rfl, by (repeat (first | refine Below.setCell ?_ (by first | exact Nat.le_refl _ | (simp <;> omega)) _ | refine Below.alloc ?_ (by first | exact B.size | (have := B.size; simp <;> omega)) _)); exact B⟩
theorem Read6_r (v : Value) (l : List UInt64) (W T r : Int) (hW : W = rdW l) (hT : T = rdT l) (hr : r = rdErr l) (w : World) (h : Words w v l) :
    Calls Try.prog 69 #[v] w fun e w' => e = .returned (.tuple #[.agg #[.int .i64 W, .int .i64 T], .int .i64 r]) ∧ Below w.heap.size w w' := by subst hW hT hr; exact Read6_any v l w h
theorem good_rd {n : Nat} {l : List UInt64} (hl : l.length = 8) : CopyOk n l ↔ rdErr l = 0 ∧ rdW l = (n : Int) := by
  unfold CopyOk rdErr rdW
  rw [if_pos hl]
  by_cases h : ReadOk l
  · simp [h]
  · simp [h]
theorem rd_ok3 {l : List UInt64} (h : ReadOk l) : rdW l = at2 l ∧ rdT l = at3 l := ⟨if_pos h, if_pos h⟩
theorem index_two (a b : Int) (W : World) : (Instr.index 141 (.agg #[.int .i64 a, .int .i64 b]) (.int .i64 0)).run Try.prog W = .ok (.int .i64 a) W ∧ (Instr.index 141 (.agg #[.int .i64 a, .int .i64 b]) (.int .i64 1)).run Try.prog W = .ok (.int .i64 b) W := by
  obtain ⟨i, hi, hsz⟩ := Option.map_eq_some_iff.1 one_int
  constructor <;> simp [Instr.index, run_underlying Try.underlying141, asIntOf, sizeOf, typeInfo, go_sem, hi, hsz]
def fnd (a0 t0 a1 t1 : Int) : Nat → Array Value
  | 0 => #[.int .i64 0, .int .i64 0, .int .i64 0, .int .i64 0]
  | 1 => #[.int .i64 a0, .int .i64 t0, .int .i64 0, .int .i64 0]
  | _ => #[.int .i64 a0, .int .i64 t0, .int .i64 a1, .int .i64 t1]
def rgt (b0 b1 : Bool) : Nat → Array Value
  | 0 => #[.bool false, .bool false]
  | 1 => #[.bool b0, .bool false]
  | _ => #[.bool b0, .bool b1]
/-- what a copy says -/
theorem copy_cases {n : Nat} {l : List UInt64} (hl : l.length = 8) (b : Bool) (hb : b = decide (CopyOk n l)) : (rdErr l = 0 ∧ (rdW l == (n : Int)) = b) ∨ ((rdErr l == 0) = false ∧ b = false) := by
  by_cases h : rdErr l = 0
  · refine .inl ⟨h, ?_⟩
    rw [hb]
    by_cases h2 : rdW l = (n : Int)
    · rw [decide_eq_true ((good_rd hl).2 ⟨h, h2⟩), beq_iff_eq]; exact h2
    · rw [decide_eq_false (fun hg => h2 ((good_rd hl).1 hg).2), beq_eq_false_iff_ne]; exact h2
  · refine .inr ⟨by rw [beq_eq_false_iff_ne]; exact h, ?_⟩
    rw [hb]; exact decide_eq_false (fun hg => h ((good_rd hl).1 hg).1)
set_option maxRecDepth 100000 in
set_option maxHeartbeats 4000000 in
theorem TRead_any (v : Value) (m : List UInt64) (W T : Int) (b0 b1 : Bool) (r : Int) (hW : W = sW m) (hT : T = sT m) (h0 : b0 = is0 m) (h1 : b1 = is1 m) (hr : r = rErr m) (w : World) (h : Words w v m) :
    Calls Try.prog 36 #[v] w fun e w' => e = .returned (.tuple #[.agg #[.int .i64 W, .int .i64 T], .agg #[.bool b0, .bool b1], .int .i64 r]) ∧ Below w.heap.size w w' := by
  have B : Below w.heap.size w w := Below.refl _ _
  have CT := fun w h => Check_any v m w h
  by_cases hs : SizeOk m.length
  rotate_left
  · rw [chk_no hs] at CT
    obtain rfl : W = 0 := by rw [hW, sW, if_neg (by rw [rErr_no hs]; omega)]
    obtain rfl : T = 0 := by rw [hT, sT, if_neg (by rw [rErr_no hs]; omega)]
    obtain rfl : b0 = false := by rw [h0, is0_no hs]
    obtain rfl : b1 = false := by rw [h1, is1_no hs]
    obtain rfl : r = 8 := by rw [hr, rErr_no hs]
    have HC := Lib.hid CT; have H := Lib.hid h; clear CT h hs hW hT h0 h1 hr
    go_enter Try.func36, Try.ntmps36
    go_upto_region 1 with (fail)
    refine wp_gen (fun Wv => Bx Wv (w.heap.size) (80) (#[.int .i64 0, .int .i64 0]) ∧ Bx Wv (w.heap.size + 1) (95) (#[.bool false, .bool false]) ∧ Below w.heap.size w Wv) ⟨(((Bx.at_ (by simp)).alloc _)), ((Bx.at_ (by simp))), (((Below.refl _ w).alloc (by simp <;> omega) _).alloc (by simp <;> omega) _)⟩ ?_
    rintro w' ⟨g2, g3, b⟩
    replace B := B.trans (b.mono B.size); clear b
    have c_g2 := g2.cell; have f_g2 := g2.free; have a_g2 := fun o => (g2.alloc o).cell; have d_g2 := fun o o2 => ((g2.alloc o).alloc o2).cell; have e_g2 := fun o => (g2.alloc o).free
    have c_g3 := g3.cell; have f_g3 := g3.free; have a_g3 := fun o => (g3.alloc o).cell; have d_g3 := fun o o2 => ((g3.alloc o).alloc o2).cell; have e_g3 := fun o => (g3.alloc o).free
    go_wp2_with fail
    refine (HC.out _ (H.out.below B)).mono ?_
    rintro e w' ⟨rfl, rfl⟩
    go_wp2
    refine bodyPost_ret (v := .tuple #[.agg #[.int .i64 0, .int .i64 0], .agg #[.bool false, .bool false], .int .i64 8]) (by simp [results, Try.results36, go_sem, c_g2, f_g2, a_g2, e_g2, c_g3, f_g3, a_g3, e_g3]) rfl ?_
    exact ⟨rfl, by (repeat (first | refine Below.setCell ?_ (by first | exact Nat.le_refl _ | (simp <;> omega)) _ | refine Below.alloc ?_ (by first | exact B.size | (have := B.size; simp <;> omega)) _)); exact B⟩
  rw [chk_ok hs] at CT
  have hn := hs.1
  obtain ⟨v0, sl0, hv0⟩ := h.cut (P := Try.prog) Try.underlying25 one_u64 (lo := 0) (hi := 8) (by omega) (by omega) (by omega)
  obtain ⟨v1, sl1, hv1⟩ := h.cut (P := Try.prog) Try.underlying25 one_u64 (lo := 8) (hi := 16) (by omega) (by omega) (by omega)
  have hv0' : Words w v0 (c0 m) := hv0
  have hv1' : Words w v1 (c1 m) := hv1
  have l1 := Rd.len h Try.underlying25
  obtain ⟨n, hnn⟩ : ∃ n, n = m.length := ⟨_, rfl⟩
  rw [← hnn] at l1
  obtain ⟨a0, ha0⟩ : ∃ x, x = rdW (c0 m) := ⟨_, rfl⟩
  obtain ⟨t0, ht0⟩ : ∃ x, x = rdT (c0 m) := ⟨_, rfl⟩
  obtain ⟨e0, he0⟩ : ∃ x, x = rdErr (c0 m) := ⟨_, rfl⟩
  obtain ⟨a1, ha1⟩ : ∃ x, x = rdW (c1 m) := ⟨_, rfl⟩
  obtain ⟨t1, ht1⟩ : ∃ x, x = rdT (c1 m) := ⟨_, rfl⟩
  obtain ⟨e1, he1⟩ : ∃ x, x = rdErr (c1 m) := ⟨_, rfl⟩
  have R0 := Lib.hid (fun w h => Read6_r v0 (c0 m) a0 t0 e0 ha0 ht0 he0 w h)
  have R1 := Lib.hid (fun w h => Read6_r v1 (c1 m) a1 t1 e1 ha1 ht1 he1 w h)
  have K0 : (e0 = 0 ∧ (a0 == (n : Int)) = b0) ∨ ((e0 == 0) = false ∧ b0 = false) := by rw [he0, ha0, hnn]; exact copy_cases (c0_len hs) b0 (by rw [h0, is0_good hs])
  have K1 : (e1 = 0 ∧ (a1 == (n : Int)) = b1) ∨ ((e1 == 0) = false ∧ b1 = false) := by rw [he1, ha1, hnn]; exact copy_cases (c1_len hs) b1 (by rw [h1, is1_good hs])
  -- what comes out
  have F0 : b0 = true → W = a0 ∧ T = t0 ∧ r = 0 := by
    intro h
    have hi : is0 m = true := by rw [← h0]; exact h
    have hr0 := rErr_mk hs (.inl hi)
    have hg : CopyOk m.length (c0 m) := (of_decide_eq_true hi).2
    have ho : one m = c0 m := if_pos hi
    exact ⟨by rw [hW, sW, if_pos hr0, ha0, (rd_ok3 hg.1).1, hg.2], by rw [hT, sT, if_pos hr0, ht0, (rd_ok3 hg.1).2, ho], by rw [hr, hr0]⟩
  have F1 : b0 = false → b1 = true → W = a1 ∧ T = t1 ∧ r = 0 := by
    intro h h'
    have hi : is1 m = true := by rw [← h1]; exact h'
    have hi0 : is0 m = false := by rw [← h0]; exact h
    have hr0 := rErr_mk hs (.inr hi)
    have hg : CopyOk m.length (c1 m) := (of_decide_eq_true hi).2
    have ho : one m = c1 m := if_neg (by simp [hi0])
    exact ⟨by rw [hW, sW, if_pos hr0, ha1, (rd_ok3 hg.1).1, hg.2], by rw [hT, sT, if_pos hr0, ht1, (rd_ok3 hg.1).2, ho], by rw [hr, hr0]⟩
  have F2 : b0 = false → b1 = false → W = 0 ∧ T = 0 ∧ r = 50 := by
    intro h h'
    have hr0 := rErr_50 hs (by rw [← h0]; exact h) (by rw [← h1]; exact h')
    exact ⟨by rw [hW, sW, if_neg (by rw [hr0]; omega)], by rw [hT, sT, if_neg (by rw [hr0]; omega)], by rw [hr, hr0]⟩
  have FF := Lib.hid (And.intro F0 (And.intro F1 F2))
  have KK := Lib.hid (And.intro K0 K1)
  have HC := Lib.hid CT; have H := Lib.hid h; have HV0 := Lib.hid hv0'; have HV1 := Lib.hid hv1'
  clear CT h hs hW hT h0 h1 hr hv0 hv1 hv0' hv1' ha0 ht0 he0 ha1 ht1 he1 F0 F1 F2 K0 K1 hn hnn
  go_enter Try.func36, Try.ntmps36
  go_upto_region 1 with (fail)
  refine wp_gen (fun Wv => Bx Wv (w.heap.size) (80) (#[.int .i64 0, .int .i64 0]) ∧ Bx Wv (w.heap.size + 1) (95) (#[.bool false, .bool false]) ∧ Below w.heap.size w Wv) ⟨(((Bx.at_ (by simp)).alloc _)), ((Bx.at_ (by simp))), (((Below.refl _ w).alloc (by simp <;> omega) _).alloc (by simp <;> omega) _)⟩ ?_
  rintro wa1 ⟨g2, g3, b⟩
  replace B := B.trans (b.mono B.size); clear b
  have c_g2 := g2.cell; have f_g2 := g2.free; have a_g2 := fun o => (g2.alloc o).cell; have d_g2 := fun o o2 => ((g2.alloc o).alloc o2).cell; have e_g2 := fun o => (g2.alloc o).free
  have c_g3 := g3.cell; have f_g3 := g3.free; have a_g3 := fun o => (g3.alloc o).cell; have d_g3 := fun o o2 => ((g3.alloc o).alloc o2).cell; have e_g3 := fun o => (g3.alloc o).free
  go_wp2_with fail
  refine (HC.out _ (H.out.below B)).mono ?_
  rintro e w' ⟨rfl, rfl⟩
  have hz1 := B.size
  have d2 := g2.lt; have d3 := g3.lt
  go_upto_region 6 with (fail)
  refine wp_gen (fun Wv => Bx Wv (wa1.heap.size) (140) (fnd a0 t0 a1 t1 0) ∧ Bx Wv (wa1.heap.size + 1) (95) (rgt b0 b1 0) ∧ Below wa1.heap.size wa1 Wv) ⟨(((Bx.at_ (by simp)).alloc _)), ((Bx.at_ (by simp))), (((Below.refl _ wa1).alloc (by simp <;> omega) _).alloc (by simp <;> omega) _)⟩ ?_
  rintro wa2 ⟨g6, g7, b⟩
  try clear c_g2 f_g2 a_g2 d_g2 e_g2
  replace g2 := g2.below b; have c_g2 := g2.cell; have f_g2 := g2.free; have a_g2 := fun o => (g2.alloc o).cell; have d_g2 := fun o o2 => ((g2.alloc o).alloc o2).cell; have e_g2 := fun o => (g2.alloc o).free; try clear c_g3 f_g3 a_g3 d_g3 e_g3
  replace g3 := g3.below b; have c_g3 := g3.cell; have f_g3 := g3.free; have a_g3 := fun o => (g3.alloc o).cell; have d_g3 := fun o o2 => ((g3.alloc o).alloc o2).cell; have e_g3 := fun o => (g3.alloc o).free; replace B := B.trans (b.mono B.size); clear b
  have c_g6 := g6.cell; have f_g6 := g6.free; have a_g6 := fun o => (g6.alloc o).cell; have d_g6 := fun o o2 => ((g6.alloc o).alloc o2).cell; have e_g6 := fun o => (g6.alloc o).free
  have c_g7 := g7.cell; have f_g7 := g7.free; have a_g7 := fun o => (g7.alloc o).cell; have d_g7 := fun o o2 => ((g7.alloc o).alloc o2).cell; have e_g7 := fun o => (g7.alloc o).free
  obtain ⟨p2, hp2⟩ : ∃ p, p = w.heap.size := ⟨_, rfl⟩
  obtain ⟨p6, hp6⟩ : ∃ p, p = wa1.heap.size := ⟨_, rfl⟩
  obtain ⟨p3, hp3⟩ : ∃ p, p = p2 + 1 := ⟨_, rfl⟩
  obtain ⟨p7, hp7⟩ : ∃ p, p = p6 + 1 := ⟨_, rfl⟩
  have hB6 : w.heap.size ≤ p6 := by omega
  have hB7 : w.heap.size ≤ p7 := by omega
  have hB2 : w.heap.size ≤ p2 := by omega
  have hB3 : w.heap.size ≤ p3 := by omega
  have q1 : p2 < p6 := by omega
  have q2 : p3 < p6 := by omega
  have q3 : p2 ≠ p3 := by omega
  rw [← hp2] at g2 g3 ⊢
  rw [← hp3] at g3 ⊢
  rw [← hp6] at g6 g7 ⊢
  rw [← hp7] at g7 ⊢
  have q4 : p6 < p7 := by omega
  clear hp2 hp3 hp6 d2 d3 hz1
  clear hp7
  clear c_g2 f_g2 a_g2 d_g2 e_g2 c_g3 f_g3 a_g3 d_g3 e_g3 c_g6 f_g6 a_g6 d_g6 e_g6 c_g7 f_g7 a_g7 d_g7 e_g7
  have c_g2 := 0; have f_g2 := 0; have a_g2 := 0; have d_g2 := 0; have e_g2 := 0
  have c_g3 := 0; have f_g3 := 0; have a_g3 := 0; have d_g3 := 0; have e_g3 := 0
  have c_g6 := 0; have f_g6 := 0; have a_g6 := 0; have d_g6 := 0; have e_g6 := 0
  have c_g7 := 0; have f_g7 := 0; have a_g7 := 0; have d_g7 := 0; have e_g7 := 0
  go_wp2_with fail
  refine (starts_any _).mono ?_
  rintro e wa3 ⟨rfl, b⟩
  try clear c_g2 f_g2 a_g2 d_g2 e_g2
  replace g2 := g2.below b; have c_g2 := g2.cell; have f_g2 := g2.free; have a_g2 := fun o => (g2.alloc o).cell; have d_g2 := fun o o2 => ((g2.alloc o).alloc o2).cell; have e_g2 := fun o => (g2.alloc o).free; try clear c_g3 f_g3 a_g3 d_g3 e_g3
  replace g3 := g3.below b; have c_g3 := g3.cell; have f_g3 := g3.free; have a_g3 := fun o => (g3.alloc o).cell; have d_g3 := fun o o2 => ((g3.alloc o).alloc o2).cell; have e_g3 := fun o => (g3.alloc o).free; try clear c_g6 f_g6 a_g6 d_g6 e_g6
  replace g6 := g6.below b; have c_g6 := g6.cell; have f_g6 := g6.free; have a_g6 := fun o => (g6.alloc o).cell; have d_g6 := fun o o2 => ((g6.alloc o).alloc o2).cell; have e_g6 := fun o => (g6.alloc o).free; try clear c_g7 f_g7 a_g7 d_g7 e_g7
  replace g7 := g7.below b; have c_g7 := g7.cell; have f_g7 := g7.free; have a_g7 := fun o => (g7.alloc o).cell; have d_g7 := fun o o2 => ((g7.alloc o).alloc o2).cell; have e_g7 := fun o => (g7.alloc o).free; replace B := B.trans (b.mono B.size); clear b
  have HH := Lib.hid (And.intro g2 (And.intro g3 (And.intro g6 (And.intro g7 B))))
  clear c_g2 f_g2 a_g2 d_g2 e_g2 c_g3 f_g3 a_g3 d_g3 e_g3 c_g6 f_g6 a_g6 d_g6 e_g6 c_g7 f_g7 a_g7 d_g7 e_g7 g2 g3 g6 g7 B
  have hE6 : p6 < wa3.heap.size := HH.out.2.2.1.lt
  clear hE6
  go_wp2
  go_loopg [20] 2 (fun g i wr => ∃ k : Nat, k ≤ 2 ∧ g = 2 - k ∧ i = .int .i64 k ∧ Hid (Bx wr p2 80 #[.int .i64 0, .int .i64 0] ∧ Bx wr p3 95 #[.bool false, .bool false] ∧ Bx wr p6 140 (fnd a0 t0 a1 t1 k) ∧ Bx wr p7 95 (rgt b0 b1 k) ∧ Below w.heap.size w wr))
  case atStart => exact ⟨0, by omega, by omega, rfl, HH⟩
  case round =>
    clear HH
    obtain ⟨k, hk, rfl, rfl, hh⟩ := hrel
    have ix0 := fun W => (index_two 0 8 W).1
    have ix1 := fun W => (index_two 0 8 W).2
    have hk3 : k = 0 ∨ k = 1 ∨ k = 2 := by omega
    clear hk
    rcases hk3 with rfl | rfl | rfl
    · obtain ⟨G2, G3, G6, G7, B⟩ := hh.out
      go_wp2_with fail
      refine (R0.out _ (HV0.out.below B)).mono ?_
      rintro e wx ⟨rfl, b⟩
      have g2 := G2.below b; have g3 := G3.below b; have g6 := G6.below b; have g7 := G7.below b
      replace B := B.trans (b.mono B.size)
      clear b G2 G3 G6 G7 hh
      go_upto_region 10 with (fail)
      refine wp_gen (fun V => Bx V wx.heap.size 80 #[.int .i64 a0, .int .i64 t0] ∧ Below wx.heap.size wx V) ⟨Bx.at_ (by simp), (Below.refl _ _).alloc (Nat.le_refl _) _⟩ ?_
      rintro wy ⟨g10, b⟩
      have d2 := g2.lt; have d3 := g3.lt; have d6 := g6.lt; have d7 := g7.lt
      replace g2 := g2.below b; replace g3 := g3.below b; replace g6 := g6.below b; replace g7 := g7.below b
      replace B := B.trans (b.mono B.size)
      clear b
      obtain ⟨p10, hp10⟩ : ∃ p, p = wx.heap.size := ⟨_, rfl⟩
      rw [← hp10] at g10 d2 d3 d6 d7 ⊢
      clear hp10
      obtain ⟨L, hL⟩ : ∃ L, L = [Bk.mk p6 140 13 (fnd a0 t0 a1 t1 0) (fnd a0 t0 a1 t1 1), Bk.mk p7 95 15 (rgt b0 b1 0) (rgt b0 b1 1), Bk.mk p10 80 13 (#[.int .i64 a0, .int .i64 t0]) (#[.int .i64 a0, .int .i64 t0]), Bk.mk p2 80 13 (#[.int .i64 0, .int .i64 0]) (#[.int .i64 0, .int .i64 0]), Bk.mk p3 95 13 (#[.bool false, .bool false]) (#[.bool false, .bool false])] := ⟨_, rfl⟩
      have ST : FBx w (w.heap.size) L (fun _ => false) (World.drew wy) := FBx.start B (by subst hL; exact List.forall_mem_cons.2 ⟨g6, List.forall_mem_cons.2 ⟨g7, List.forall_mem_cons.2 ⟨g10, List.forall_mem_cons.2 ⟨g2, List.forall_mem_cons.2 ⟨g3, fun _ h => by cases h⟩⟩⟩⟩⟩)
      have DP : Dep (FBx w (w.heap.size) L) [13, 15] := FBx.dep (by subst hL; simp)
      have kb2 := fun x : FXN (FBx w (w.heap.size) L) => FBx.cell (Bk.mk p10 80 13 (#[.int .i64 a0, .int .i64 t0]) (#[.int .i64 a0, .int .i64 t0])) (by subst hL; simp) rfl x
      dsimp only at kb2
      have kb3 := fun x : FXN (FBx w (w.heap.size) L) => FBx.cell (Bk.mk p2 80 13 (#[.int .i64 0, .int .i64 0]) (#[.int .i64 0, .int .i64 0])) (by subst hL; simp) rfl x
      dsimp only at kb3
      have kb4 := fun x : FXN (FBx w (w.heap.size) L) => FBx.cell (Bk.mk p3 95 13 (#[.bool false, .bool false]) (#[.bool false, .bool false])) (by subst hL; simp) rfl x
      dsimp only at kb4
      have S1 := FBx.stepRow (P := Try.prog) (w0 := w) (B := w.heap.size) (L := L) (k := 13) (Bk.mk p6 140 13 (fnd a0 t0 a1 t1 0) (fnd a0 t0 a1 t1 1)) (by subst hL; simp) hB6 rfl (q := 0) (cells := #[.int .i64 a0, .int .i64 t0]) (by simp [fnd, rgt]) (by simp [fnd, rgt]) (by simp [putL, fnd, rgt]) (by simp [putL, fnd, rgt]) (by subst hL; exact List.forall_mem_cons.2 ⟨.inl rfl, List.forall_mem_cons.2 ⟨.inr ⟨by show p7 ≠ p6; omega, .inl (by show (15 : Nat) ≠ 13; decide)⟩, List.forall_mem_cons.2 ⟨.inr ⟨by show p10 ≠ p6; omega, .inr rfl⟩, List.forall_mem_cons.2 ⟨.inr ⟨by show p2 ≠ p6; omega, .inr rfl⟩, List.forall_mem_cons.2 ⟨.inr ⟨by show p3 ≠ p6; omega, .inr rfl⟩, fun _ h => by cases h⟩⟩⟩⟩⟩) (ty := 80) (by kernel_rfl) (by simp [Value.oneCell'])
      dsimp only at S1
      have HS1 := Lib.hid S1; clear S1
      have S1 := FBx.step1 (P := Try.prog) (w0 := w) (B := w.heap.size) (L := L) (k := 15) (Bk.mk p7 95 15 (rgt b0 b1 0) (rgt b0 b1 1)) (by subst hL; simp) hB7 rfl (q := 0) (u := .bool b0) (u0 := .bool false) (u1 := .bool b0) rfl rfl (by simp [rgt, fnd]) (by simp [rgt, fnd]) (by subst hL; exact List.forall_mem_cons.2 ⟨.inr ⟨by show p6 ≠ p7; omega, .inl (by show (13 : Nat) ≠ 15; decide)⟩, List.forall_mem_cons.2 ⟨.inl rfl, List.forall_mem_cons.2 ⟨.inr ⟨by show p10 ≠ p7; omega, .inr rfl⟩, List.forall_mem_cons.2 ⟨.inr ⟨by show p2 ≠ p7; omega, .inr rfl⟩, List.forall_mem_cons.2 ⟨.inr ⟨by show p3 ≠ p7; omega, .inr rfl⟩, fun _ h => by cases h⟩⟩⟩⟩⟩) (ty := 4) (fun W u0 h1 h2 => store_bool (by kernel_rfl) W _ u0 _ h1 h2)
      dsimp only at S1
      have HS2 := Lib.hid S1; clear S1
      have HST := Lib.hid ST; clear ST; have HL := Lib.hid hL; clear hL
      haveI : Nonempty (FXN (FBx w (w.heap.size) L)) := ⟨⟨_, _, HST.out⟩⟩
      clear kb3 kb4 g2 g3 g6 g7 g10 B d2 d3 d6 d7
      rcases KK.out.1 with ⟨rfl, hq⟩ | ⟨hq, rfl⟩
      all_goals
        refine wp_region_N (FBx w (w.heap.size) L) [13, 15] DP (by kernel_rfl) (by kernel_rfl) (by kernel_rfl) HST.out ?_
        iterate 6 (refine wpN_read DP rfl (by decide) ?_; go_big_quiet_step (fail); refine wpQuiet_nil ?_)
        iterate 3 (first | (refine wpN_skip DP (by decide) rfl ?_; simp only [Act.put, List.setIfInBounds_toArray, List.set_cons_zero, List.set_cons_succ]) | (refine wpN_read DP rfl (by decide) ?_; go_big_quiet_step (fail); refine wpQuiet_nil ?_))
        first | (refine wpN_skip DP (by decide) rfl ?_; simp only [Act.put, List.setIfInBounds_toArray, List.set_cons_zero, List.set_cons_succ]) | (refine wpN_len DP rfl (by decide) rfl (fun W => l1 _ W) ?_; simp only [Act.put, List.setIfInBounds_toArray, List.set_cons_zero, List.set_cons_succ])
        iterate 1 (first | (refine wpN_skip DP (by decide) rfl ?_; simp only [Act.put, List.setIfInBounds_toArray, List.set_cons_zero, List.set_cons_succ]) | (refine wpN_read DP rfl (by decide) ?_; go_big_quiet_step (fail); refine wpQuiet_nil ?_))
        iterate 2 (refine wpN_read DP rfl (by decide) ?_; go_big_quiet_step (fail); refine wpQuiet_nil ?_)
        refine wpN_store DP 80 (.tmp 45) (.tmp 35) rfl rfl (p := .pointer (some ⟨p6, 0, none⟩)) (u := .agg #[.int .i64 a0, .int .i64 t0]) (by rfl) (by rfl) HS1.out ?_
        simp only [Act.put, List.setIfInBounds_toArray, List.set_cons_zero, List.set_cons_succ]
        iterate 1 (refine wpN_read DP rfl (by decide) ?_; go_big_quiet_step (fail); refine wpQuiet_nil ?_)
        refine wpN_store DP 4 (.tmp 46) (.tmp 44) rfl rfl (p := .pointer (some ⟨p7, 0, none⟩)) (u := _) (by rfl) (by rfl) HS2.out ?_
        simp only [Act.put, List.setIfInBounds_toArray, List.set_cons_zero, List.set_cons_succ]
        intro wz hd
        obtain ⟨B, hd⟩ := FBx.done hd
        rw [HL.out] at hd
        obtain ⟨g6, hd⟩ := List.forall_mem_cons.1 hd
        obtain ⟨g7, hd⟩ := List.forall_mem_cons.1 hd
        obtain ⟨g10, hd⟩ := List.forall_mem_cons.1 hd
        obtain ⟨g2, hd⟩ := List.forall_mem_cons.1 hd
        obtain ⟨g3, hd⟩ := List.forall_mem_cons.1 hd
        dsimp only at g6 g7 g10 g2 g3
        clear hd HST HL DP this
        have HH := Lib.hid (And.intro g2 (And.intro g3 (And.intro g6 (And.intro g7 B))))
        clear g2 g3 g6 g7 g10 B HS1 HS2
        go_wp2
        go_roundg (2 - 1)
        case measure => omega
        case rel => exact ⟨1, by omega, rfl, by go_num, HH⟩
    · obtain ⟨G2, G3, G6, G7, B⟩ := hh.out
      go_wp2_with fail
      refine (R1.out _ (HV1.out.below B)).mono ?_
      rintro e wx ⟨rfl, b⟩
      have g2 := G2.below b; have g3 := G3.below b; have g6 := G6.below b; have g7 := G7.below b
      replace B := B.trans (b.mono B.size)
      clear b G2 G3 G6 G7 hh
      go_upto_region 10 with (fail)
      refine wp_gen (fun V => Bx V wx.heap.size 80 #[.int .i64 a1, .int .i64 t1] ∧ Below wx.heap.size wx V) ⟨Bx.at_ (by simp), (Below.refl _ _).alloc (Nat.le_refl _) _⟩ ?_
      rintro wy ⟨g10, b⟩
      have d2 := g2.lt; have d3 := g3.lt; have d6 := g6.lt; have d7 := g7.lt
      replace g2 := g2.below b; replace g3 := g3.below b; replace g6 := g6.below b; replace g7 := g7.below b
      replace B := B.trans (b.mono B.size)
      clear b
      obtain ⟨p10, hp10⟩ : ∃ p, p = wx.heap.size := ⟨_, rfl⟩
      rw [← hp10] at g10 d2 d3 d6 d7 ⊢
      clear hp10
      obtain ⟨L, hL⟩ : ∃ L, L = [Bk.mk p6 140 13 (fnd a0 t0 a1 t1 1) (fnd a0 t0 a1 t1 2), Bk.mk p7 95 15 (rgt b0 b1 1) (rgt b0 b1 2), Bk.mk p10 80 13 (#[.int .i64 a1, .int .i64 t1]) (#[.int .i64 a1, .int .i64 t1]), Bk.mk p2 80 13 (#[.int .i64 0, .int .i64 0]) (#[.int .i64 0, .int .i64 0]), Bk.mk p3 95 13 (#[.bool false, .bool false]) (#[.bool false, .bool false])] := ⟨_, rfl⟩
      have ST : FBx w (w.heap.size) L (fun _ => false) (World.drew wy) := FBx.start B (by subst hL; exact List.forall_mem_cons.2 ⟨g6, List.forall_mem_cons.2 ⟨g7, List.forall_mem_cons.2 ⟨g10, List.forall_mem_cons.2 ⟨g2, List.forall_mem_cons.2 ⟨g3, fun _ h => by cases h⟩⟩⟩⟩⟩)
      have DP : Dep (FBx w (w.heap.size) L) [13, 15] := FBx.dep (by subst hL; simp)
      have kb2 := fun x : FXN (FBx w (w.heap.size) L) => FBx.cell (Bk.mk p10 80 13 (#[.int .i64 a1, .int .i64 t1]) (#[.int .i64 a1, .int .i64 t1])) (by subst hL; simp) rfl x
      dsimp only at kb2
      have kb3 := fun x : FXN (FBx w (w.heap.size) L) => FBx.cell (Bk.mk p2 80 13 (#[.int .i64 0, .int .i64 0]) (#[.int .i64 0, .int .i64 0])) (by subst hL; simp) rfl x
      dsimp only at kb3
      have kb4 := fun x : FXN (FBx w (w.heap.size) L) => FBx.cell (Bk.mk p3 95 13 (#[.bool false, .bool false]) (#[.bool false, .bool false])) (by subst hL; simp) rfl x
      dsimp only at kb4
      have S1 := FBx.stepRow (P := Try.prog) (w0 := w) (B := w.heap.size) (L := L) (k := 13) (Bk.mk p6 140 13 (fnd a0 t0 a1 t1 1) (fnd a0 t0 a1 t1 2)) (by subst hL; simp) hB6 rfl (q := 2) (cells := #[.int .i64 a1, .int .i64 t1]) (by simp [fnd, rgt]) (by simp [fnd, rgt]) (by simp [putL, fnd, rgt]) (by simp [putL, fnd, rgt]) (by subst hL; exact List.forall_mem_cons.2 ⟨.inl rfl, List.forall_mem_cons.2 ⟨.inr ⟨by show p7 ≠ p6; omega, .inl (by show (15 : Nat) ≠ 13; decide)⟩, List.forall_mem_cons.2 ⟨.inr ⟨by show p10 ≠ p6; omega, .inr rfl⟩, List.forall_mem_cons.2 ⟨.inr ⟨by show p2 ≠ p6; omega, .inr rfl⟩, List.forall_mem_cons.2 ⟨.inr ⟨by show p3 ≠ p6; omega, .inr rfl⟩, fun _ h => by cases h⟩⟩⟩⟩⟩) (ty := 80) (by kernel_rfl) (by simp [Value.oneCell'])
      dsimp only at S1
      have HS1 := Lib.hid S1; clear S1
      have S1 := FBx.step1 (P := Try.prog) (w0 := w) (B := w.heap.size) (L := L) (k := 15) (Bk.mk p7 95 15 (rgt b0 b1 1) (rgt b0 b1 2)) (by subst hL; simp) hB7 rfl (q := 1) (u := .bool b1) (u0 := .bool false) (u1 := .bool b1) rfl rfl (by simp [rgt, fnd]) (by simp [rgt, fnd]) (by subst hL; exact List.forall_mem_cons.2 ⟨.inr ⟨by show p6 ≠ p7; omega, .inl (by show (13 : Nat) ≠ 15; decide)⟩, List.forall_mem_cons.2 ⟨.inl rfl, List.forall_mem_cons.2 ⟨.inr ⟨by show p10 ≠ p7; omega, .inr rfl⟩, List.forall_mem_cons.2 ⟨.inr ⟨by show p2 ≠ p7; omega, .inr rfl⟩, List.forall_mem_cons.2 ⟨.inr ⟨by show p3 ≠ p7; omega, .inr rfl⟩, fun _ h => by cases h⟩⟩⟩⟩⟩) (ty := 4) (fun W u0 h1 h2 => store_bool (by kernel_rfl) W _ u0 _ h1 h2)
      dsimp only at S1
      have HS2 := Lib.hid S1; clear S1
      have HST := Lib.hid ST; clear ST; have HL := Lib.hid hL; clear hL
      haveI : Nonempty (FXN (FBx w (w.heap.size) L)) := ⟨⟨_, _, HST.out⟩⟩
      clear kb3 kb4 g2 g3 g6 g7 g10 B d2 d3 d6 d7
      rcases KK.out.2 with ⟨rfl, hq⟩ | ⟨hq, rfl⟩
      all_goals
        refine wp_region_N (FBx w (w.heap.size) L) [13, 15] DP (by kernel_rfl) (by kernel_rfl) (by kernel_rfl) HST.out ?_
        iterate 6 (refine wpN_read DP rfl (by decide) ?_; go_big_quiet_step (fail); refine wpQuiet_nil ?_)
        iterate 3 (first | (refine wpN_skip DP (by decide) rfl ?_; simp only [Act.put, List.setIfInBounds_toArray, List.set_cons_zero, List.set_cons_succ]) | (refine wpN_read DP rfl (by decide) ?_; go_big_quiet_step (fail); refine wpQuiet_nil ?_))
        first | (refine wpN_skip DP (by decide) rfl ?_; simp only [Act.put, List.setIfInBounds_toArray, List.set_cons_zero, List.set_cons_succ]) | (refine wpN_len DP rfl (by decide) rfl (fun W => l1 _ W) ?_; simp only [Act.put, List.setIfInBounds_toArray, List.set_cons_zero, List.set_cons_succ])
        iterate 1 (first | (refine wpN_skip DP (by decide) rfl ?_; simp only [Act.put, List.setIfInBounds_toArray, List.set_cons_zero, List.set_cons_succ]) | (refine wpN_read DP rfl (by decide) ?_; go_big_quiet_step (fail); refine wpQuiet_nil ?_))
        iterate 2 (refine wpN_read DP rfl (by decide) ?_; go_big_quiet_step (fail); refine wpQuiet_nil ?_)
        refine wpN_store DP 80 (.tmp 45) (.tmp 35) rfl rfl (p := .pointer (some ⟨p6, 2, none⟩)) (u := .agg #[.int .i64 a1, .int .i64 t1]) (by rfl) (by rfl) HS1.out ?_
        simp only [Act.put, List.setIfInBounds_toArray, List.set_cons_zero, List.set_cons_succ]
        iterate 1 (refine wpN_read DP rfl (by decide) ?_; go_big_quiet_step (fail); refine wpQuiet_nil ?_)
        refine wpN_store DP 4 (.tmp 46) (.tmp 44) rfl rfl (p := .pointer (some ⟨p7, 1, none⟩)) (u := _) (by rfl) (by rfl) HS2.out ?_
        simp only [Act.put, List.setIfInBounds_toArray, List.set_cons_zero, List.set_cons_succ]
        intro wz hd
        obtain ⟨B, hd⟩ := FBx.done hd
        rw [HL.out] at hd
        obtain ⟨g6, hd⟩ := List.forall_mem_cons.1 hd
        obtain ⟨g7, hd⟩ := List.forall_mem_cons.1 hd
        obtain ⟨g10, hd⟩ := List.forall_mem_cons.1 hd
        obtain ⟨g2, hd⟩ := List.forall_mem_cons.1 hd
        obtain ⟨g3, hd⟩ := List.forall_mem_cons.1 hd
        dsimp only at g6 g7 g10 g2 g3
        clear hd HST HL DP this
        have HH := Lib.hid (And.intro g2 (And.intro g3 (And.intro g6 (And.intro g7 B))))
        clear g2 g3 g6 g7 g10 B HS1 HS2
        go_wp2
        go_roundg (2 - 2)
        case measure => omega
        case rel => exact ⟨2, by omega, rfl, by go_num, HH⟩
    · obtain ⟨G2, G3, G6, G7, B⟩ := hh.out
      have g2 := G2; have g3 := G3; have g6 := G6; have g7 := G7
      have d2 := g2.lt; have d3 := g3.lt; have d6 := g6.lt; have d7 := g7.lt
      clear G2 G3 G6 G7 hh ix0 ix1 R0 R1 HV0 HV1 sl0 sl1
      cases b0
      · cases b1
        · obtain ⟨rfl, rfl, rfl⟩ := FF.out.2.2 rfl rfl
          have c7 : wr.cell? ⟨p7, 0, none⟩ = some (.bool false) := g7.cell 0; have c7b : wr.cell? ⟨p7, 1, none⟩ = some (.bool false) := g7.cell 1; have c2 := g2.cell; have f2 := g2.free; have c3 := g3.cell; have f3 := g3.free
          go_wp2
          refine bodyPost_ret (v := .tuple #[.agg #[.int .i64 0, .int .i64 0], .agg #[.bool false, .bool false], .int .i64 50]) (by simp [results, Try.results36, go_sem, c2, c3, f2, f3]) rfl ⟨rfl, ?_⟩
          (repeat (first | refine Below.setCell ?_ (by first | exact hB2 | exact hB3 | (simp <;> omega)) _)); exact B
        · obtain ⟨rfl, rfl, rfl⟩ := FF.out.2.1 rfl rfl
          have c7 : wr.cell? ⟨p7, 0, none⟩ = some (.bool false) := g7.cell 0; have c7b : wr.cell? ⟨p7, 1, none⟩ = some (.bool true) := g7.cell 1
          go_upto_region 15 with (fail)
          clear c7 c7b
          obtain ⟨L, hL⟩ : ∃ L, L = [Bk.mk p2 80 3 (#[.int .i64 0, .int .i64 0]) (#[.int .i64 W, .int .i64 T]), Bk.mk p3 95 4 (#[.bool false, .bool false]) (#[.bool false, .bool true]), Bk.mk p6 140 3 (#[.int .i64 a0, .int .i64 t0, .int .i64 W, .int .i64 T]) (#[.int .i64 a0, .int .i64 t0, .int .i64 W, .int .i64 T]), Bk.mk p7 95 3 (#[.bool false, .bool true]) (#[.bool false, .bool true])] := ⟨_, rfl⟩
          have ST : FBx w (w.heap.size) L (fun _ => false) (World.drew wr) := FBx.start B (by subst hL; exact List.forall_mem_cons.2 ⟨g2, List.forall_mem_cons.2 ⟨g3, List.forall_mem_cons.2 ⟨g6, List.forall_mem_cons.2 ⟨g7, fun _ h => by cases h⟩⟩⟩⟩)
          have DP : Dep (FBx w (w.heap.size) L) [3, 4] := FBx.dep (by subst hL; simp)
          have kb2 := fun x : FXN (FBx w (w.heap.size) L) => FBx.cell (Bk.mk p6 140 3 (#[.int .i64 a0, .int .i64 t0, .int .i64 W, .int .i64 T]) (#[.int .i64 a0, .int .i64 t0, .int .i64 W, .int .i64 T])) (by subst hL; simp) rfl x
          dsimp only at kb2
          have kb3 := fun x : FXN (FBx w (w.heap.size) L) => FBx.cell (Bk.mk p7 95 3 (#[.bool false, .bool true]) (#[.bool false, .bool true])) (by subst hL; simp) rfl x
          dsimp only at kb3
          have S1 := FBx.stepRow (P := Try.prog) (w0 := w) (B := w.heap.size) (L := L) (k := 3) (Bk.mk p2 80 3 (#[.int .i64 0, .int .i64 0]) (#[.int .i64 W, .int .i64 T])) (by subst hL; simp) hB2 rfl (q := 0) (cells := #[.int .i64 W, .int .i64 T]) (by simp [fnd, rgt]) (by simp [fnd, rgt]) (by simp [putL, fnd, rgt]) (by simp [putL, fnd, rgt]) (by subst hL; exact List.forall_mem_cons.2 ⟨.inl rfl, List.forall_mem_cons.2 ⟨.inr ⟨by show p3 ≠ p2; omega, .inl (by show (4 : Nat) ≠ 3; decide)⟩, List.forall_mem_cons.2 ⟨.inr ⟨by show p6 ≠ p2; omega, .inr rfl⟩, List.forall_mem_cons.2 ⟨.inr ⟨by show p7 ≠ p2; omega, .inr rfl⟩, fun _ h => by cases h⟩⟩⟩⟩) (ty := 80) (by kernel_rfl) (by simp [Value.oneCell'])
          dsimp only at S1
          have HS1 := Lib.hid S1; clear S1
          have S1 := FBx.stepRow (P := Try.prog) (w0 := w) (B := w.heap.size) (L := L) (k := 4) (Bk.mk p3 95 4 (#[.bool false, .bool false]) (#[.bool false, .bool true])) (by subst hL; simp) hB3 rfl (q := 0) (cells := #[.bool false, .bool true]) (by simp [fnd, rgt]) (by simp [fnd, rgt]) (by simp [putL, fnd, rgt]) (by simp [putL, fnd, rgt]) (by subst hL; exact List.forall_mem_cons.2 ⟨.inr ⟨by show p2 ≠ p3; omega, .inl (by show (3 : Nat) ≠ 4; decide)⟩, List.forall_mem_cons.2 ⟨.inl rfl, List.forall_mem_cons.2 ⟨.inr ⟨by show p6 ≠ p3; omega, .inr rfl⟩, List.forall_mem_cons.2 ⟨.inr ⟨by show p7 ≠ p3; omega, .inr rfl⟩, fun _ h => by cases h⟩⟩⟩⟩) (ty := 95) (by kernel_rfl) (by simp [Value.oneCell'])
          dsimp only at S1
          have HS2 := Lib.hid S1; clear S1
          have HST := Lib.hid ST; clear ST; have HL := Lib.hid hL; clear hL
          haveI : Nonempty (FXN (FBx w (w.heap.size) L)) := ⟨⟨_, _, HST.out⟩⟩
          clear g2 g3 g6 g7 B d2 d3 d6 d7
          refine wp_region_N (FBx w (w.heap.size) L) [3, 4] DP (by kernel_rfl) (by kernel_rfl) (by kernel_rfl) HST.out ?_
          iterate 3 (refine wpN_read DP rfl (by decide) ?_; go_big_quiet_step (fail); refine wpQuiet_nil ?_)
          refine wpN_store DP 80 (.tmp 2) (.tmp 58) rfl rfl (p := .pointer (some ⟨p2, 0, none⟩)) (u := _) (by rfl) (by rfl) HS1.out ?_
          simp only [Act.put, List.setIfInBounds_toArray, List.set_cons_zero, List.set_cons_succ]
          refine wpN_store DP 95 (.tmp 3) (.tmp 59) rfl rfl (p := .pointer (some ⟨p3, 0, none⟩)) (u := _) (by rfl) (by rfl) HS2.out ?_
          simp only [Act.put, List.setIfInBounds_toArray, List.set_cons_zero, List.set_cons_succ]
          iterate 1 (refine wpN_read DP rfl (by decide) ?_; go_big_quiet_step (fail); refine wpQuiet_nil ?_)
          intro wz hd
          obtain ⟨B, hd⟩ := FBx.done hd
          rw [HL.out] at hd
          obtain ⟨g2, hd⟩ := List.forall_mem_cons.1 hd
          obtain ⟨g3, hd⟩ := List.forall_mem_cons.1 hd
          obtain ⟨g6, hd⟩ := List.forall_mem_cons.1 hd
          obtain ⟨g7, hd⟩ := List.forall_mem_cons.1 hd
          dsimp only at g2 g3 g6 g7
          clear hd HST HL DP this
          have c2 := g2.cell; have f2 := g2.free; have c3 := g3.cell; have f3 := g3.free
          go_wp2
          refine bodyPost_ret (v := .tuple #[.agg #[.int .i64 W, .int .i64 T], .agg #[.bool false, .bool true], .int .i64 0]) (by simp [results, Try.results36, go_sem, c2, c3, f2, f3]) rfl ⟨rfl, B⟩
      · obtain ⟨rfl, rfl, rfl⟩ := FF.out.1 rfl
        have c7 : wr.cell? ⟨p7, 0, none⟩ = some (.bool true) := g7.cell 0
        go_upto_region 13 with (fail)
        clear c7
        obtain ⟨L, hL⟩ : ∃ L, L = [Bk.mk p2 80 3 (#[.int .i64 0, .int .i64 0]) (#[.int .i64 W, .int .i64 T]), Bk.mk p3 95 4 (#[.bool false, .bool false]) (#[.bool true, .bool b1]), Bk.mk p6 140 3 (#[.int .i64 W, .int .i64 T, .int .i64 a1, .int .i64 t1]) (#[.int .i64 W, .int .i64 T, .int .i64 a1, .int .i64 t1]), Bk.mk p7 95 3 (#[.bool true, .bool b1]) (#[.bool true, .bool b1])] := ⟨_, rfl⟩
        have ST : FBx w (w.heap.size) L (fun _ => false) (World.drew wr) := FBx.start B (by subst hL; exact List.forall_mem_cons.2 ⟨g2, List.forall_mem_cons.2 ⟨g3, List.forall_mem_cons.2 ⟨g6, List.forall_mem_cons.2 ⟨g7, fun _ h => by cases h⟩⟩⟩⟩)
        have DP : Dep (FBx w (w.heap.size) L) [3, 4] := FBx.dep (by subst hL; simp)
        have kb2 := fun x : FXN (FBx w (w.heap.size) L) => FBx.cell (Bk.mk p6 140 3 (#[.int .i64 W, .int .i64 T, .int .i64 a1, .int .i64 t1]) (#[.int .i64 W, .int .i64 T, .int .i64 a1, .int .i64 t1])) (by subst hL; simp) rfl x
        dsimp only at kb2
        have kb3 := fun x : FXN (FBx w (w.heap.size) L) => FBx.cell (Bk.mk p7 95 3 (#[.bool true, .bool b1]) (#[.bool true, .bool b1])) (by subst hL; simp) rfl x
        dsimp only at kb3
        have S1 := FBx.stepRow (P := Try.prog) (w0 := w) (B := w.heap.size) (L := L) (k := 3) (Bk.mk p2 80 3 (#[.int .i64 0, .int .i64 0]) (#[.int .i64 W, .int .i64 T])) (by subst hL; simp) hB2 rfl (q := 0) (cells := #[.int .i64 W, .int .i64 T]) (by simp [fnd, rgt]) (by simp [fnd, rgt]) (by simp [putL, fnd, rgt]) (by simp [putL, fnd, rgt]) (by subst hL; exact List.forall_mem_cons.2 ⟨.inl rfl, List.forall_mem_cons.2 ⟨.inr ⟨by show p3 ≠ p2; omega, .inl (by show (4 : Nat) ≠ 3; decide)⟩, List.forall_mem_cons.2 ⟨.inr ⟨by show p6 ≠ p2; omega, .inr rfl⟩, List.forall_mem_cons.2 ⟨.inr ⟨by show p7 ≠ p2; omega, .inr rfl⟩, fun _ h => by cases h⟩⟩⟩⟩) (ty := 80) (by kernel_rfl) (by simp [Value.oneCell'])
        dsimp only at S1
        have HS1 := Lib.hid S1; clear S1
        have S1 := FBx.stepRow (P := Try.prog) (w0 := w) (B := w.heap.size) (L := L) (k := 4) (Bk.mk p3 95 4 (#[.bool false, .bool false]) (#[.bool true, .bool b1])) (by subst hL; simp) hB3 rfl (q := 0) (cells := #[.bool true, .bool b1]) (by simp [fnd, rgt]) (by simp [fnd, rgt]) (by simp [putL, fnd, rgt]) (by simp [putL, fnd, rgt]) (by subst hL; exact List.forall_mem_cons.2 ⟨.inr ⟨by show p2 ≠ p3; omega, .inl (by show (3 : Nat) ≠ 4; decide)⟩, List.forall_mem_cons.2 ⟨.inl rfl, List.forall_mem_cons.2 ⟨.inr ⟨by show p6 ≠ p3; omega, .inr rfl⟩, List.forall_mem_cons.2 ⟨.inr ⟨by show p7 ≠ p3; omega, .inr rfl⟩, fun _ h => by cases h⟩⟩⟩⟩) (ty := 95) (by kernel_rfl) (by simp [Value.oneCell'])
        dsimp only at S1
        have HS2 := Lib.hid S1; clear S1
        have HST := Lib.hid ST; clear ST; have HL := Lib.hid hL; clear hL
        haveI : Nonempty (FXN (FBx w (w.heap.size) L)) := ⟨⟨_, _, HST.out⟩⟩
        clear g2 g3 g6 g7 B d2 d3 d6 d7
        refine wp_region_N (FBx w (w.heap.size) L) [3, 4] DP (by kernel_rfl) (by kernel_rfl) (by kernel_rfl) HST.out ?_
        iterate 3 (refine wpN_read DP rfl (by decide) ?_; go_big_quiet_step (fail); refine wpQuiet_nil ?_)
        refine wpN_store DP 80 (.tmp 2) (.tmp 52) rfl rfl (p := .pointer (some ⟨p2, 0, none⟩)) (u := _) (by rfl) (by rfl) HS1.out ?_
        simp only [Act.put, List.setIfInBounds_toArray, List.set_cons_zero, List.set_cons_succ]
        refine wpN_store DP 95 (.tmp 3) (.tmp 53) rfl rfl (p := .pointer (some ⟨p3, 0, none⟩)) (u := _) (by rfl) (by rfl) HS2.out ?_
        simp only [Act.put, List.setIfInBounds_toArray, List.set_cons_zero, List.set_cons_succ]
        iterate 1 (refine wpN_read DP rfl (by decide) ?_; go_big_quiet_step (fail); refine wpQuiet_nil ?_)
        intro wz hd
        obtain ⟨B, hd⟩ := FBx.done hd
        rw [HL.out] at hd
        obtain ⟨g2, hd⟩ := List.forall_mem_cons.1 hd
        obtain ⟨g3, hd⟩ := List.forall_mem_cons.1 hd
        obtain ⟨g6, hd⟩ := List.forall_mem_cons.1 hd
        obtain ⟨g7, hd⟩ := List.forall_mem_cons.1 hd
        dsimp only at g2 g3 g6 g7
        clear hd HST HL DP this
        have c2 := g2.cell; have f2 := g2.free; have c3 := g3.cell; have f3 := g3.free
        go_wp2
        refine bodyPost_ret (v := .tuple #[.agg #[.int .i64 W, .int .i64 T], .agg #[.bool true, .bool b1], .int .i64 0]) (by simp [results, Try.results36, go_sem, c2, c3, f2, f3]) rfl ⟨rfl, B⟩
end Go.Proofs.Ytodbbacmdjcheaa
namespace Go.Proofs.Ytodbbacmdjcheaa
open Go.RowKit L01 L02 L05 L14
end Go.Proofs.Ytodbbacmdjcheaa
namespace Go.Proofs.Ytodbbacmdjcheaa
open Go Go.RowKit
section
variable {P : Program} {ops : Array Oper} {rest : List Oper} {o : Oper} {a : Act} {Q : Act → Prop} {F : (Nat → Bool) → World → Prop} {js : List Nat} {k : Nat} {md : Region.Mode}
end
/-- one of five worlds, by which of four operations are done, one behind the other -/
def FCh (k1 k2 k3 k4 : Nat) (W0 W1 W2 W3 W4 : World) : (Nat → Bool) → World → Prop := fun f W =>
  (f k2 = true → f k1 = true) ∧ (f k3 = true → f k2 = true) ∧ (f k4 = true → f k3 = true) ∧ W = (if f k4 = true then W4 else if f k3 = true then W3 else if f k2 = true then W2 else if f k1 = true then W1 else W0)
section
variable {k1 k2 k3 k4 : Nat} {W0 W1 W2 W3 W4 : World}
theorem FCh.dep : Dep (FCh k1 k2 k3 k4 W0 W1 W2 W3 W4) [k1, k2, k3, k4] := by
  rintro f g W hfg ⟨h1, h2, h3, h4⟩
  have e1 := hfg k1 (by simp); have e2 := hfg k2 (by simp); have e3 := hfg k3 (by simp); have e4 := hfg k4 (by simp)
  rw [e1, e2] at h1; rw [e2, e3] at h2; rw [e3, e4] at h3; rw [e1, e2, e3, e4] at h4
  exact ⟨h1, h2, h3, h4⟩
theorem FCh.start : FCh k1 k2 k3 k4 W0 W1 W2 W3 W4 (fun _ => false) W0 := ⟨by simp, by simp, by simp, by simp⟩
theorem FCh.done {W : World} (h : FCh k1 k2 k3 k4 W0 W1 W2 W3 W4 (fun _ => true) W) : W = W4 := by have := h.2.2.2; simpa using this
theorem no_of {b c : Bool} (h : b = true → c = true) (hc : c = false) : b = false := by cases b; rfl; rw [h rfl] at hc; cases hc
theorem FCh.s1 (hk : k1 ≠ k2 ∧ k1 ≠ k3 ∧ k1 ≠ k4) {f : Nat → Bool} {W : World} (h : FCh k1 k2 k3 k4 W0 W1 W2 W3 W4 f W) (h0 : f k1 = false) : W = W0 ∧ FCh k1 k2 k3 k4 W0 W1 W2 W3 W4 (fun i => i == k1 || f i) W1 := by
  obtain ⟨a1, a2, a3, a4⟩ := h
  have b2 := no_of a1 h0; have b3 := no_of a2 b2; have b4 := no_of a3 b3
  refine ⟨by rw [a4]; simp [h0, b2, b3, b4], by simp, ?_, ?_, ?_⟩
  · simp only [b3, Bool.or_false]; intro h; rw [beq_iff_eq] at h; exact absurd h.symm hk.2.1
  · simp only [b4, Bool.or_false]; intro h; rw [beq_iff_eq] at h; exact absurd h.symm hk.2.2
  · have e2 : (k2 == k1) = false := by rw [beq_eq_false_iff_ne]; exact hk.1.symm
    have e3 : (k3 == k1) = false := by rw [beq_eq_false_iff_ne]; exact hk.2.1.symm
    have e4 : (k4 == k1) = false := by rw [beq_eq_false_iff_ne]; exact hk.2.2.symm
    simp [b2, b3, b4, e2, e3, e4]
theorem FCh.s2 (hk : k2 ≠ k1 ∧ k2 ≠ k3 ∧ k2 ≠ k4) {f : Nat → Bool} {W : World} (h : FCh k1 k2 k3 k4 W0 W1 W2 W3 W4 f W) (h0 : f k2 = false) (h1 : f k1 = true) : W = W1 ∧ FCh k1 k2 k3 k4 W0 W1 W2 W3 W4 (fun i => i == k2 || f i) W2 := by
  obtain ⟨a1, a2, a3, a4⟩ := h
  have b3 := no_of a2 h0; have b4 := no_of a3 b3
  have e1 : (k1 == k2) = false := by rw [beq_eq_false_iff_ne]; exact hk.1.symm
  have e3 : (k3 == k2) = false := by rw [beq_eq_false_iff_ne]; exact hk.2.1.symm
  have e4 : (k4 == k2) = false := by rw [beq_eq_false_iff_ne]; exact hk.2.2.symm
  exact ⟨by rw [a4]; simp [h0, h1, b3, b4], by simp [h1], by simp, by simp [b4, e4], by simp [b3, b4, e3, e4]⟩
theorem FCh.s3 (hk : k3 ≠ k1 ∧ k3 ≠ k2 ∧ k3 ≠ k4) {f : Nat → Bool} {W : World} (h : FCh k1 k2 k3 k4 W0 W1 W2 W3 W4 f W) (h0 : f k3 = false) (h1 : f k2 = true) : W = W2 ∧ FCh k1 k2 k3 k4 W0 W1 W2 W3 W4 (fun i => i == k3 || f i) W3 := by
  obtain ⟨a1, a2, a3, a4⟩ := h
  have b4 := no_of a3 h0
  have e4 : (k4 == k3) = false := by rw [beq_eq_false_iff_ne]; exact hk.2.2.symm
  exact ⟨by rw [a4]; simp [h0, h1, b4], by simp [a1 h1], by simp [h1], by simp, by simp [b4, e4]⟩
theorem FCh.s4 (hk : k4 ≠ k1 ∧ k4 ≠ k2 ∧ k4 ≠ k3) {f : Nat → Bool} {W : World} (h : FCh k1 k2 k3 k4 W0 W1 W2 W3 W4 f W) (h0 : f k4 = false) (h1 : f k3 = true) : W = W3 ∧ FCh k1 k2 k3 k4 W0 W1 W2 W3 W4 (fun i => i == k4 || f i) W4 := by
  obtain ⟨a1, a2, a3, a4⟩ := h
  exact ⟨by rw [a4]; simp [h0, h1], by simp [a1 (a2 h1)], by simp [a2 h1], by simp [h1], by simp⟩
end
/-- one of four worlds, by which of three operations are done, one behind the other -/
def FC3 (k1 k2 k3 : Nat) (W0 W1 W2 W3 : World) : (Nat → Bool) → World → Prop := fun f W =>
  (f k2 = true → f k1 = true) ∧ (f k3 = true → f k2 = true) ∧ W = (if f k3 = true then W3 else if f k2 = true then W2 else if f k1 = true then W1 else W0)
section
variable {k1 k2 k3 : Nat} {W0 W1 W2 W3 : World}
theorem FC3.dep : Dep (FC3 k1 k2 k3 W0 W1 W2 W3) [k1, k2, k3] := by
  rintro f g W hfg ⟨h1, h2, h4⟩
  have e1 := hfg k1 (by simp); have e2 := hfg k2 (by simp); have e3 := hfg k3 (by simp)
  rw [e1, e2] at h1; rw [e2, e3] at h2; rw [e1, e2, e3] at h4
  exact ⟨h1, h2, h4⟩
theorem FC3.start : FC3 k1 k2 k3 W0 W1 W2 W3 (fun _ => false) W0 := ⟨by simp, by simp, by simp⟩
theorem FC3.done {W : World} (h : FC3 k1 k2 k3 W0 W1 W2 W3 (fun _ => true) W) : W = W3 := by have := h.2.2; simpa using this
theorem FC3.s1 (hk : k1 ≠ k2 ∧ k1 ≠ k3) {f : Nat → Bool} {W : World} (h : FC3 k1 k2 k3 W0 W1 W2 W3 f W) (h0 : f k1 = false) : W = W0 ∧ FC3 k1 k2 k3 W0 W1 W2 W3 (fun i => i == k1 || f i) W1 := by
  obtain ⟨a1, a2, a4⟩ := h
  have b2 := no_of a1 h0; have b3 := no_of a2 b2
  have e2 : (k2 == k1) = false := by rw [beq_eq_false_iff_ne]; exact hk.1.symm
  have e3 : (k3 == k1) = false := by rw [beq_eq_false_iff_ne]; exact hk.2.symm
  exact ⟨by rw [a4]; simp [h0, b2, b3], by simp, by simp [b3, e3], by simp [b2, b3, e2, e3]⟩
theorem FC3.s2 (hk : k2 ≠ k1 ∧ k2 ≠ k3) {f : Nat → Bool} {W : World} (h : FC3 k1 k2 k3 W0 W1 W2 W3 f W) (h0 : f k2 = false) (h1 : f k1 = true) : W = W1 ∧ FC3 k1 k2 k3 W0 W1 W2 W3 (fun i => i == k2 || f i) W2 := by
  obtain ⟨a1, a2, a4⟩ := h
  have b3 := no_of a2 h0
  have e3 : (k3 == k2) = false := by rw [beq_eq_false_iff_ne]; exact hk.2.symm
  exact ⟨by rw [a4]; simp [h0, h1, b3], by simp [h1], by simp, by simp [b3, e3]⟩
theorem FC3.s3 (hk : k3 ≠ k1 ∧ k3 ≠ k2) {f : Nat → Bool} {W : World} (h : FC3 k1 k2 k3 W0 W1 W2 W3 f W) (h0 : f k3 = false) (h1 : f k2 = true) : W = W2 ∧ FC3 k1 k2 k3 W0 W1 W2 W3 (fun i => i == k3 || f i) W3 := by
  obtain ⟨a1, a2, a4⟩ := h
  exact ⟨by rw [a4]; simp [h0, h1], by simp [a1 h1], by simp [h1], by simp⟩
end
end Go.Proofs.Ytodbbacmdjcheaa
namespace Go.Proofs.Ytodbbacmdjcheaa
open Go Go.RowKit
/-- the first d of the operations ks are done, the world is Ws d; the read r comes before the operation number m. -/
def FL (ks : List Nat) (Ws : Nat → World) (r m : Nat) : (Nat → Bool) → World → Prop := fun f W =>
  ∃ d, d ≤ ks.length ∧ (∀ i k, ks[i]? = some k → f k = decide (i < d)) ∧ W = Ws d ∧ (m < d → f r = true)
section
variable {ks : List Nat} {Ws : Nat → World} {r m : Nat}
theorem FL.dep : Dep (FL ks Ws r m) (r :: ks) := by
  rintro f g W hfg ⟨d, h1, h2, h3, h4⟩
  refine ⟨d, h1, fun i k hk => ?_, h3, fun hm => ?_⟩
  · rw [← hfg k (List.mem_cons_of_mem _ (List.mem_of_getElem? hk))]; exact h2 i k hk
  · rw [← hfg r List.mem_cons_self]; exact h4 hm
theorem FL.start : FL ks Ws r m (fun _ => false) (Ws 0) := ⟨0, Nat.zero_le _, fun i k _ => by simp, rfl, fun h => by omega⟩
theorem FL.done {W : World} (h : FL ks Ws r m (fun _ => true) W) : W = Ws ks.length := by
  obtain ⟨d, h1, h2, h3, h4⟩ := h
  rw [h3]
  congr 1
  by_cases hd : d = ks.length
  · exact hd
  · have hlt : d < ks.length := by omega
    have := h2 d ks[d] (List.getElem?_eq_getElem hlt)
    simp at this
theorem FL.step {i k : Nat} (hk : ks[i]? = some k) (hn : ks.Nodup) {f : Nat → Bool} {W : World} (h : FL ks Ws r m f W) (h0 : f k = false) (hp : ∀ p, i = p + 1 → ∀ k', ks[p]? = some k' → f k' = true) (hm : i = m → f r = true) :
    W = Ws i ∧ FL ks Ws r m (fun j => j == k || f j) (Ws (i + 1)) := by
  obtain ⟨d, h1, h2, h3, h4⟩ := h
  have hil : i < ks.length := (List.getElem?_eq_some_iff.1 hk).1
  have hd1 : ¬ i < d := by have := h2 i k hk; rw [h0] at this; simpa using this.symm
  have hd2 : i ≤ d := by
    rcases i with _ | p
    · omega
    · have hp' : ks[p]? = some ks[p] := List.getElem?_eq_getElem (by omega)
      have e1 := hp p rfl _ hp'
      rw [h2 p _ hp'] at e1
      have := of_decide_eq_true e1
      omega
  obtain rfl : d = i := by omega
  refine ⟨h3, d + 1, by omega, fun j k' hk' => ?_, rfl, fun hmd => ?_⟩
  · by_cases hj : j = d
    · subst hj
      rw [hk] at hk'; injection hk' with hk'; subst hk'
      simp
    · have hne : k' ≠ k := fun e => by
        subst e
        exact hj ((List.getElem?_inj (List.getElem?_eq_some_iff.1 hk').1 hn).1 (hk'.trans hk.symm))
      have e1 : (k' == k) = false := by rw [beq_eq_false_iff_ne]; exact hne
      simp only [e1, Bool.false_or]
      rw [h2 j k' hk']
      have : (j < d) = (j < d + 1) := by rw [eq_iff_iff]; omega
      simp only [this]
  · by_cases hmi : d = m
    · simp [hm hmi]
    · simp [h4 (by omega)]
theorem FL.prev {p q : Nat} {f : Nat → Bool} (hq : ks[p]? = some q) (h : f q = true) : ∀ p', p + 1 = p' + 1 → ∀ k', ks[p']? = some k' → f k' = true := by
  intro p' hp k' hk
  obtain rfl : p = p' := by omega
  rw [hq] at hk; injection hk with hk; subst hk; exact h
theorem FL.read (hr : r ∉ ks) {f : Nat → Bool} {W : World} (h : FL ks Ws r m f W) (h0 : f r = false) : (∃ d, d ≤ ks.length ∧ d ≤ m ∧ W = Ws d) ∧ FL ks Ws r m (fun j => j == r || f j) W := by
  obtain ⟨d, h1, h2, h3, h4⟩ := h
  have hdm : d ≤ m := by
    rcases Nat.lt_or_ge m d with h | h
    · rw [h4 h] at h0; cases h0
    · exact h
  refine ⟨⟨d, h1, hdm, h3⟩, d, h1, fun i k hk => ?_, h3, fun _ => by simp⟩
  have hne : (k == r) = false := by rw [beq_eq_false_iff_ne]; exact fun e => hr (e ▸ List.mem_of_getElem? hk)
  simp only [hne, Bool.false_or]
  exact h2 i k hk
theorem FL.all {p : World → Prop} (h : ∀ d, d ≤ ks.length → p (Ws d)) (x : FXN (FL ks Ws r m)) : p x.W := by
  obtain ⟨W, f, d, h1, _, h3, _⟩ := x
  subst h3; exact h d h1
end
section
variable {P : Program} {ops : Array Oper} {rest : List Oper} {o : Oper} {a : Act} {Q : Act → Prop} {F : (Nat → Bool) → World → Prop} {js : List Nat} {k : Nat} {md : Region.Mode}
/-- a store, where others that it waits for are done -/
theorem wpN_storeD (hD : Dep F js) (hi : ops[k]? = some o) (ty : TypeId) (px py : Operand) (ho : o.op = .store ty px py) (hw : Region.wanted o (yielded ops a.tmps) = true) {p u : Value} (hx : a.eval px = p) (hy : a.eval py = u) (dep : List Nat) (hd : (dep.all fun j => o.after.any fun e => Region.binds md e && e.on == j) = true)
    (hs : ∀ f W, F f W → f k = false → (∀ j ∈ dep, f j = true) → ∃ W', (Instr.storeAt ty p u).run P W = .ok () W' ∧ F (fun i => i == k || f i) W') (h : wpF P md ops (CN F) Q rest (k + 1) (a.put o.dst undef)) : wpF P md ops (CN F) Q (o :: rest) k a := by
  refine ⟨undef, .inl ⟨hw, fun listed W hl hW => ?_⟩, h⟩
  have hk : listed.getD k false = false := by
    have h1 := (mem_ready.1 hl).1
    rcases Nat.lt_or_ge k listed.size with h' | h'
    · simp [h'] at h1 ⊢; exact h1
    · simp [Array.getElem?_eq_none h'] at h1 
  obtain ⟨W', h1, h2⟩ := hs _ W hW hk (fun j hj => ready_after hi (List.all_eq_true.1 hd j hj) hl)
  unfold execOp
  simp only [ho, hx, hy, Sem.run_bind, h1, Result.andThen_ok, Sem.run_pure, uponF, true_and]
  refine hD _ _ _ (fun j hj => ?_) h2
  by_cases hjk : j = k
  · subst hjk
    rw [(getD_on (mem_ready.1 hl).1).2]; simp
  · have hne : k ≠ j := Ne.symm hjk
    rw [getD_set_ne false hne]; simp [hjk]
end
end Go.Proofs.Ytodbbacmdjcheaa
namespace Go.Proofs.Ytodbbacmdjcheaa
open Go.RowKit L02 L14 L15
def bkL (b : Hb) : List Value := [.int .i64 b.at_, .int .i64 b.size, .int .i64 b.kind, .int .i64 b.ty, .bool b.mark, .int .u64 b.next.toNat]
def tabB (L : List Hb) : List Value := L.flatMap bkL
theorem tabB_len (L : List Hb) : (tabB L).length = L.length * 6 := by
  induction L with
  | nil => rfl
  | cons s L ih => rw [tabB, List.flatMap_cons, List.length_append, ← tabB, ih]; simp [bkL]; omega
theorem tabB_get : ∀ (L : List Hb) (k : Nat) (s : Hb), L[k]? = some s → ∀ i, i < 6 → (tabB L)[k * 6 + i]? = (bkL s)[i]?
  | [], _, _, h, _, _ => by cases h
  | t :: L, 0, s, h, i, hi => by
    simp at h; subst h
    rw [tabB, List.flatMap_cons, Nat.zero_mul, Nat.zero_add, List.getElem?_append_left (by simpa [bkL] using hi)]
  | t :: L, k + 1, s, h, i, hi => by
    rw [tabB, List.flatMap_cons, List.getElem?_append_right (by simp [bkL]; omega)]
    rw [show (k + 1) * 6 + i - (bkL t).length = k * 6 + i by simp [bkL]; omega]
    exact tabB_get L k s (by simpa using h) i hi
theorem bkL_one (s : Hb) : ∀ u ∈ bkL s, u.oneCell' = true := by
  intro u hu
  simp [bkL] at hu
  rcases hu with rfl | rfl | rfl | rfl | rfl | rfl <;> rfl
theorem tabB_snoc (L : List Hb) (s : Hb) : tabB L ++ bkL s = tabB (L ++ [s]) := by simp [tabB, List.flatMap_append]
theorem size_block : (Try.prog.info? 84).map (·.size) = some 6 := by kernel_rfl
theorem info_block : (Try.prog.info? 84).map (fun i => (i.zero, i.size, i.bytes)) = some (some (.agg #[.int .i64 0, .int .i64 0, .int .i64 0, .int .i64 0, .bool false, .int .u64 0]), 6, 48) := by kernel_rfl
/-- A slice of blocks. -/
def Blks (w : World) (v : Value) (L : List Hb) : Prop := Rd w 6 v L.length (tabB L)
def OwnK (w : World) (base : Nat) (v : Value) (L : List Hb) : Prop := w.ownsRow base 84 6 v L.length (tabB L)
theorem OwnK.rd {w : World} {base : Nat} {v : Value} {L : List Hb} (h : OwnK w base v L) : Blks w v L := Rd.of_own h
theorem Blks.below {w w' : World} {v : Value} {L : List Hb} (h : Blks w v L) (hb : Below w.heap.size w w') : Blks w' v L := Rd.below h hb
theorem OwnK.below {w w' : World} {base : Nat} {v : Value} {L : List Hb} (h : OwnK w base v L) (hb : Below w.heap.size w w') : OwnK w' base v L := own_below h hb
theorem OwnK.mono {w : World} {base base' : Nat} {v : Value} {L : List Hb} (h : OwnK w base v L) (hb : base' ≤ base) : OwnK w base' v L := own_mono h hb
theorem OwnK.nil (w : World) (base : Nat) : OwnK w base (.slice none 0 0) [] := World.ownsRow_nil w base _ 6
theorem Blks.nil (w : World) : Blks w (.slice none 0 0) [] := (OwnK.nil w 0).rd
theorem OwnK.of {w : World} {B n : Nat} {v : Value} {xs : List Value} {L : List Hb} (h : w.ownsRow B 84 6 v n xs) (hx : xs = tabB L) : OwnK w B v L := by
  subst hx
  have hn : n = L.length := by have := h.1; rw [tabB_len] at this; omega
  subst hn; exact h
theorem Blks.len {w : World} {v : Value} {L : List Hb} (h : Blks w v L) : ∀ ty W, (Builtin.len_ #[92] ty #[v]).run Try.prog W = .ok (.int .i64 (L.length : Int)) W := Rd.len h Try.underlying92
theorem Blks.len_le {w : World} {v : Value} {L : List Hb} (h : Blks w v L) : L.length ≤ 9223372036854775807 := Rd.len_le h
theorem Blks.form {w : World} {v : Value} {L : List Hb} (h : Blks w v L) : ∃ A c, v = .slice A L.length c := by
  obtain ⟨A, c, e, _⟩ := h; exact ⟨A, c, e⟩
theorem lit_block {w : World} {e : TypeId} {n : Nat} (s : Hb) (hn : w.heap.size = n) : Rd (w.alloc (.cells #[.int .i64 s.at_, .int .i64 s.size, .int .i64 s.kind, .int .i64 s.ty, .bool s.mark, .int .u64 s.next.toNat] e)) 6 (.slice (some ⟨n, 0, none⟩) 1 1) 1 (bkL s) := by
  subst hn; exact lit_rdK (n := 1) (sz := 6) rfl (by omega)
/-- a block of a slice -/
theorem Blks.at_ {w : World} {v : Value} {L : List Hb} (h : Blks w v L) {k : Nat} (hk : k < L.length) :
    ∃ b o s, (∀ W, (Instr.indexAt 92 v (.int .i64 (k : Int))).run Try.prog W = .ok (.pointer (some ⟨b, o, none⟩)) W) ∧ w.cell? ⟨b, o, none⟩ = some (.int .i64 s.at_) ∧ w.cell? ⟨b, o + 1, none⟩ = some (.int .i64 s.size) ∧ w.cell? ⟨b, o + 2, none⟩ = some (.int .i64 s.kind) ∧ w.cell? ⟨b, o + 3, none⟩ = some (.int .i64 s.ty) ∧ w.cell? ⟨b, o + 4, none⟩ = some (.bool s.mark) ∧ w.cell? ⟨b, o + 5, none⟩ = some (.int .u64 s.next.toNat) ∧ Hid (L[k]? = some s) ∧ b < w.heap.size := by
  have hix := fun W => Rd.ixN (P := Try.prog) h Try.underlying92 size_block hk W
  obtain ⟨b, o, c, rfl, hb, hc, hcell⟩ := Rd.form h (by omega)
  have hs : L[k]? = some L[k] := List.getElem?_eq_getElem hk
  have t0 := tabB_get L k _ hs 0 (by omega)
  have t1 := tabB_get L k _ hs 1 (by omega)
  have t2 := tabB_get L k _ hs 2 (by omega)
  have t3 := tabB_get L k _ hs 3 (by omega)
  have t4 := tabB_get L k _ hs 4 (by omega)
  have t5 := tabB_get L k _ hs 5 (by omega)
  exact ⟨b, o + k * 6, L[k], fun W => hix W, hcell _ _ t0, hcell _ _ t1, hcell _ _ t2, hcell _ _ t3, hcell _ _ t4, hcell _ _ t5, Lib.hid hs, hb⟩
end Go.Proofs.Ytodbbacmdjcheaa
