/- Contracts of the functions that the law 'ModelImages' reaches, part 5. No condition. -/
import Derived.Test.YtbfmdbeeiicabaaMMIsd
set_option linter.unusedVariables false
set_option linter.unusedSimpArgs false
namespace Go.Proofs.Ytbfmdbeeiicabaa
open Go.RowKit L02 L05 L06 L07
theorem starts_any (w : World) : Calls Try.prog 74 #[] w fun e w' => e = .returned (.agg #[.int .i64 0, .int .i64 8]) ∧ Below w.heap.size w w' := by
  have B : Below w.heap.size w w := Below.refl _ _
  go_enter Try.func74, Try.ntmps74
  go_upto_region 1 with (fail)
  refine wp_gen (fun Wv => Bx Wv (w.heap.size) (122) (#[.int .i64 0, .int .i64 0]) ∧ Below w.heap.size w Wv) ⟨((Bx.at_ (by simp))), ((Below.refl _ w).alloc (by simp <;> omega) _)⟩ ?_
  rintro w' ⟨g1, b⟩
  replace B := B.trans (b.mono B.size); clear b
  have c_g1 := g1.cell; have f_g1 := g1.free; have a_g1 := fun o => (g1.alloc o).cell; have d_g1 := fun o o2 => ((g1.alloc o).alloc o2).cell; have e_g1 := fun o => (g1.alloc o).free
  go_wp2
  refine bodyPost_ret (v := .agg #[.int .i64 0, .int .i64 8]) (by simp [results, Try.results74, go_sem, c_g1, f_g1, a_g1, e_g1]) rfl ?_
  exact ⟨rfl, by (repeat (first | refine Below.setCell ?_ (by first | exact Nat.le_refl _ | (simp <;> omega)) _ | refine Below.alloc ?_ (by first | exact B.size | (have := B.size; simp <;> omega)) _)); exact B⟩
theorem Read6_r (v : Value) (l : List UInt64) (W T r : Int) (hW : W = rdW l) (hT : T = rdT l) (hr : r = rdErr l) (w : World) (h : Words w v l) :
    Calls Try.prog 75 #[v] w fun e w' => e = .returned (.tuple #[.agg #[.int .i64 W, .int .i64 T], .int .i64 r]) ∧ Below w.heap.size w w' := by subst hW hT hr; exact Read6_any v l w h
theorem good_rd {n : Nat} {l : List UInt64} (hl : l.length = 8) : CopyOk n l ↔ rdErr l = 0 ∧ rdW l = (n : Int) := by
  unfold CopyOk rdErr rdW
  rw [if_pos hl]
  by_cases h : ReadOk l
  · simp [h]
  · simp [h]
theorem rd_ok3 {l : List UInt64} (h : ReadOk l) : rdW l = at2 l ∧ rdT l = at3 l := ⟨if_pos h, if_pos h⟩
theorem index_two (a b : Int) (W : World) : (Instr.index 122 (.agg #[.int .i64 a, .int .i64 b]) (.int .i64 0)).run Try.prog W = .ok (.int .i64 a) W ∧ (Instr.index 122 (.agg #[.int .i64 a, .int .i64 b]) (.int .i64 1)).run Try.prog W = .ok (.int .i64 b) W := by
  obtain ⟨i, hi, hsz⟩ := Option.map_eq_some_iff.1 one_int
  constructor <;> simp [Instr.index, run_underlying Try.underlying122, asIntOf, sizeOf, typeInfo, go_sem, hi, hsz]
def fnd (a0 t0 a1 t1 : Int) : Nat → Array Value
  | 0 => #[.int .i64 0, .int .i64 0, .int .i64 0, .int .i64 0]
  | 1 => #[.int .i64 a0, .int .i64 t0, .int .i64 0, .int .i64 0]
  | _ => #[.int .i64 a0, .int .i64 t0, .int .i64 a1, .int .i64 t1]
def rgt (b0 b1 : Bool) : Nat → Array Value
  | 0 => #[.bool false, .bool false]
  | 1 => #[.bool b0, .bool false]
  | _ => #[.bool b0, .bool b1]
/-- what a copy says -/
theorem copy_cases {n : Nat} {l : List UInt64} (hl : l.length = 8) (b : Bool) (hb : b = decide (CopyOk n l)) : (rdErr l = 0 ∧ (rdW l == (n : Int)) = b) ∨ ((rdErr l == 0) = false ∧ b = false) := by
  by_cases h : rdErr l = 0
  · refine .inl ⟨h, ?_⟩
    rw [hb]
    by_cases h2 : rdW l = (n : Int)
    · rw [decide_eq_true ((good_rd hl).2 ⟨h, h2⟩), beq_iff_eq]; exact h2
    · rw [decide_eq_false (fun hg => h2 ((good_rd hl).1 hg).2), beq_eq_false_iff_ne]; exact h2
  · refine .inr ⟨by rw [beq_eq_false_iff_ne]; exact h, ?_⟩
    rw [hb]; exact decide_eq_false (fun hg => h ((good_rd hl).1 hg).1)
set_option maxRecDepth 100000 in
set_option maxHeartbeats 4000000 in
theorem TRead_any (v : Value) (m : List UInt64) (W T : Int) (b0 b1 : Bool) (r : Int) (hW : W = sW m) (hT : T = sT m) (h0 : b0 = is0 m) (h1 : b1 = is1 m) (hr : r = rErr m) (w : World) (h : Words w v m) :
    Calls Try.prog 37 #[v] w fun e w' => e = .returned (.tuple #[.agg #[.int .i64 W, .int .i64 T], .agg #[.bool b0, .bool b1], .int .i64 r]) ∧ Below w.heap.size w w' := by
  have B : Below w.heap.size w w := Below.refl _ _
  have CT := fun w h => Check_any v m w h
  by_cases hs : SizeOk m.length
  rotate_left
  · rw [chk_no hs] at CT
    obtain rfl : W = 0 := by rw [hW, sW, if_neg (by rw [rErr_no hs]; omega)]
    obtain rfl : T = 0 := by rw [hT, sT, if_neg (by rw [rErr_no hs]; omega)]
    obtain rfl : b0 = false := by rw [h0, is0_no hs]
    obtain rfl : b1 = false := by rw [h1, is1_no hs]
    obtain rfl : r = 8 := by rw [hr, rErr_no hs]
    have HC := Lib.hid CT; have H := Lib.hid h; clear CT h hs hW hT h0 h1 hr
    go_enter Try.func37, Try.ntmps37
    go_upto_region 1 with (fail)
    refine wp_gen (fun Wv => Bx Wv (w.heap.size) (60) (#[.int .i64 0, .int .i64 0]) ∧ Bx Wv (w.heap.size + 1) (61) (#[.bool false, .bool false]) ∧ Below w.heap.size w Wv) ⟨(((Bx.at_ (by simp)).alloc _)), ((Bx.at_ (by simp))), (((Below.refl _ w).alloc (by simp <;> omega) _).alloc (by simp <;> omega) _)⟩ ?_
    rintro w' ⟨g2, g3, b⟩
    replace B := B.trans (b.mono B.size); clear b
    have c_g2 := g2.cell; have f_g2 := g2.free; have a_g2 := fun o => (g2.alloc o).cell; have d_g2 := fun o o2 => ((g2.alloc o).alloc o2).cell; have e_g2 := fun o => (g2.alloc o).free
    have c_g3 := g3.cell; have f_g3 := g3.free; have a_g3 := fun o => (g3.alloc o).cell; have d_g3 := fun o o2 => ((g3.alloc o).alloc o2).cell; have e_g3 := fun o => (g3.alloc o).free
    go_wp2_with fail
    refine (HC.out _ (H.out.below B)).mono ?_
    rintro e w' ⟨rfl, rfl⟩
    go_wp2
    refine bodyPost_ret (v := .tuple #[.agg #[.int .i64 0, .int .i64 0], .agg #[.bool false, .bool false], .int .i64 8]) (by simp [results, Try.results37, go_sem, c_g2, f_g2, a_g2, e_g2, c_g3, f_g3, a_g3, e_g3]) rfl ?_
    exact ⟨rfl, by (repeat (first | refine Below.setCell ?_ (by first | exact Nat.le_refl _ | (simp <;> omega)) _ | refine Below.alloc ?_ (by first | exact B.size | (have := B.size; simp <;> omega)) _)); exact B⟩
  rw [chk_ok hs] at CT
  have hn := hs.1
  obtain ⟨v0, sl0, hv0⟩ := h.cut (P := Try.prog) Try.underlying22 one_u64 (lo := 0) (hi := 8) (by omega) (by omega) (by omega)
  obtain ⟨v1, sl1, hv1⟩ := h.cut (P := Try.prog) Try.underlying22 one_u64 (lo := 8) (hi := 16) (by omega) (by omega) (by omega)
  have hv0' : Words w v0 (c0 m) := hv0
  have hv1' : Words w v1 (c1 m) := hv1
  have l1 := Rd.len h Try.underlying22
  obtain ⟨n, hnn⟩ : ∃ n, n = m.length := ⟨_, rfl⟩
  rw [← hnn] at l1
  obtain ⟨a0, ha0⟩ : ∃ x, x = rdW (c0 m) := ⟨_, rfl⟩
  obtain ⟨t0, ht0⟩ : ∃ x, x = rdT (c0 m) := ⟨_, rfl⟩
  obtain ⟨e0, he0⟩ : ∃ x, x = rdErr (c0 m) := ⟨_, rfl⟩
  obtain ⟨a1, ha1⟩ : ∃ x, x = rdW (c1 m) := ⟨_, rfl⟩
  obtain ⟨t1, ht1⟩ : ∃ x, x = rdT (c1 m) := ⟨_, rfl⟩
  obtain ⟨e1, he1⟩ : ∃ x, x = rdErr (c1 m) := ⟨_, rfl⟩
  have R0 := Lib.hid (fun w h => Read6_r v0 (c0 m) a0 t0 e0 ha0 ht0 he0 w h)
  have R1 := Lib.hid (fun w h => Read6_r v1 (c1 m) a1 t1 e1 ha1 ht1 he1 w h)
  have K0 : (e0 = 0 ∧ (a0 == (n : Int)) = b0) ∨ ((e0 == 0) = false ∧ b0 = false) := by rw [he0, ha0, hnn]; exact copy_cases (c0_len hs) b0 (by rw [h0, is0_good hs])
  have K1 : (e1 = 0 ∧ (a1 == (n : Int)) = b1) ∨ ((e1 == 0) = false ∧ b1 = false) := by rw [he1, ha1, hnn]; exact copy_cases (c1_len hs) b1 (by rw [h1, is1_good hs])
  -- what comes out
  have F0 : b0 = true → W = a0 ∧ T = t0 ∧ r = 0 := by
    intro h
    have hi : is0 m = true := by rw [← h0]; exact h
    have hr0 := rErr_mk hs (.inl hi)
    have hg : CopyOk m.length (c0 m) := (of_decide_eq_true hi).2
    have ho : one m = c0 m := if_pos hi
    exact ⟨by rw [hW, sW, if_pos hr0, ha0, (rd_ok3 hg.1).1, hg.2], by rw [hT, sT, if_pos hr0, ht0, (rd_ok3 hg.1).2, ho], by rw [hr, hr0]⟩
  have F1 : b0 = false → b1 = true → W = a1 ∧ T = t1 ∧ r = 0 := by
    intro h h'
    have hi : is1 m = true := by rw [← h1]; exact h'
    have hi0 : is0 m = false := by rw [← h0]; exact h
    have hr0 := rErr_mk hs (.inr hi)
    have hg : CopyOk m.length (c1 m) := (of_decide_eq_true hi).2
    have ho : one m = c1 m := if_neg (by simp [hi0])
    exact ⟨by rw [hW, sW, if_pos hr0, ha1, (rd_ok3 hg.1).1, hg.2], by rw [hT, sT, if_pos hr0, ht1, (rd_ok3 hg.1).2, ho], by rw [hr, hr0]⟩
  have F2 : b0 = false → b1 = false → W = 0 ∧ T = 0 ∧ r = 50 := by
    intro h h'
    have hr0 := rErr_50 hs (by rw [← h0]; exact h) (by rw [← h1]; exact h')
    exact ⟨by rw [hW, sW, if_neg (by rw [hr0]; omega)], by rw [hT, sT, if_neg (by rw [hr0]; omega)], by rw [hr, hr0]⟩
  have FF := Lib.hid (And.intro F0 (And.intro F1 F2))
  have KK := Lib.hid (And.intro K0 K1)
  have HC := Lib.hid CT; have H := Lib.hid h; have HV0 := Lib.hid hv0'; have HV1 := Lib.hid hv1'
  clear CT h hs hW hT h0 h1 hr hv0 hv1 hv0' hv1' ha0 ht0 he0 ha1 ht1 he1 F0 F1 F2 K0 K1 hn hnn
  go_enter Try.func37, Try.ntmps37
  go_upto_region 1 with (fail)
  refine wp_gen (fun Wv => Bx Wv (w.heap.size) (60) (#[.int .i64 0, .int .i64 0]) ∧ Bx Wv (w.heap.size + 1) (61) (#[.bool false, .bool false]) ∧ Below w.heap.size w Wv) ⟨(((Bx.at_ (by simp)).alloc _)), ((Bx.at_ (by simp))), (((Below.refl _ w).alloc (by simp <;> omega) _).alloc (by simp <;> omega) _)⟩ ?_
  rintro wa1 ⟨g2, g3, b⟩
  replace B := B.trans (b.mono B.size); clear b
  have c_g2 := g2.cell; have f_g2 := g2.free; have a_g2 := fun o => (g2.alloc o).cell; have d_g2 := fun o o2 => ((g2.alloc o).alloc o2).cell; have e_g2 := fun o => (g2.alloc o).free
  have c_g3 := g3.cell; have f_g3 := g3.free; have a_g3 := fun o => (g3.alloc o).cell; have d_g3 := fun o o2 => ((g3.alloc o).alloc o2).cell; have e_g3 := fun o => (g3.alloc o).free
  go_wp2_with fail
  refine (HC.out _ (H.out.below B)).mono ?_
  rintro e w' ⟨rfl, rfl⟩
  have hz1 := B.size
  have d2 := g2.lt; have d3 := g3.lt
  go_upto_region 6 with (fail)
  refine wp_gen (fun Wv => Bx Wv (wa1.heap.size) (121) (fnd a0 t0 a1 t1 0) ∧ Bx Wv (wa1.heap.size + 1) (61) (rgt b0 b1 0) ∧ Below wa1.heap.size wa1 Wv) ⟨(((Bx.at_ (by simp)).alloc _)), ((Bx.at_ (by simp))), (((Below.refl _ wa1).alloc (by simp <;> omega) _).alloc (by simp <;> omega) _)⟩ ?_
  rintro wa2 ⟨g6, g7, b⟩
  try clear c_g2 f_g2 a_g2 d_g2 e_g2
  replace g2 := g2.below b; have c_g2 := g2.cell; have f_g2 := g2.free; have a_g2 := fun o => (g2.alloc o).cell; have d_g2 := fun o o2 => ((g2.alloc o).alloc o2).cell; have e_g2 := fun o => (g2.alloc o).free; try clear c_g3 f_g3 a_g3 d_g3 e_g3
  replace g3 := g3.below b; have c_g3 := g3.cell; have f_g3 := g3.free; have a_g3 := fun o => (g3.alloc o).cell; have d_g3 := fun o o2 => ((g3.alloc o).alloc o2).cell; have e_g3 := fun o => (g3.alloc o).free; replace B := B.trans (b.mono B.size); clear b
  have c_g6 := g6.cell; have f_g6 := g6.free; have a_g6 := fun o => (g6.alloc o).cell; have d_g6 := fun o o2 => ((g6.alloc o).alloc o2).cell; have e_g6 := fun o => (g6.alloc o).free
  have c_g7 := g7.cell; have f_g7 := g7.free; have a_g7 := fun o => (g7.alloc o).cell; have d_g7 := fun o o2 => ((g7.alloc o).alloc o2).cell; have e_g7 := fun o => (g7.alloc o).free
  obtain ⟨p2, hp2⟩ : ∃ p, p = w.heap.size := ⟨_, rfl⟩
  obtain ⟨p6, hp6⟩ : ∃ p, p = wa1.heap.size := ⟨_, rfl⟩
  obtain ⟨p3, hp3⟩ : ∃ p, p = p2 + 1 := ⟨_, rfl⟩
  obtain ⟨p7, hp7⟩ : ∃ p, p = p6 + 1 := ⟨_, rfl⟩
  have hB6 : w.heap.size ≤ p6 := by omega
  have hB7 : w.heap.size ≤ p7 := by omega
  have hB2 : w.heap.size ≤ p2 := by omega
  have hB3 : w.heap.size ≤ p3 := by omega
  have q1 : p2 < p6 := by omega
  have q2 : p3 < p6 := by omega
  have q3 : p2 ≠ p3 := by omega
  rw [← hp2] at g2 g3 ⊢
  rw [← hp3] at g3 ⊢
  rw [← hp6] at g6 g7 ⊢
  rw [← hp7] at g7 ⊢
  have q4 : p6 < p7 := by omega
  clear hp2 hp3 hp6 d2 d3 hz1
  clear hp7
  clear c_g2 f_g2 a_g2 d_g2 e_g2 c_g3 f_g3 a_g3 d_g3 e_g3 c_g6 f_g6 a_g6 d_g6 e_g6 c_g7 f_g7 a_g7 d_g7 e_g7
  have c_g2 := 0; have f_g2 := 0; have a_g2 := 0; have d_g2 := 0; have e_g2 := 0
  have c_g3 := 0; have f_g3 := 0; have a_g3 := 0; have d_g3 := 0; have e_g3 := 0
  have c_g6 := 0; have f_g6 := 0; have a_g6 := 0; have d_g6 := 0; have e_g6 := 0
  have c_g7 := 0; have f_g7 := 0; have a_g7 := 0; have d_g7 := 0; have e_g7 := 0
  go_wp2_with fail
  refine (starts_any _).mono ?_
  rintro e wa3 ⟨rfl, b⟩
  try clear c_g2 f_g2 a_g2 d_g2 e_g2
  replace g2 := g2.below b; have c_g2 := g2.cell; have f_g2 := g2.free; have a_g2 := fun o => (g2.alloc o).cell; have d_g2 := fun o o2 => ((g2.alloc o).alloc o2).cell; have e_g2 := fun o => (g2.alloc o).free; try clear c_g3 f_g3 a_g3 d_g3 e_g3
  replace g3 := g3.below b; have c_g3 := g3.cell; have f_g3 := g3.free; have a_g3 := fun o => (g3.alloc o).cell; have d_g3 := fun o o2 => ((g3.alloc o).alloc o2).cell; have e_g3 := fun o => (g3.alloc o).free; try clear c_g6 f_g6 a_g6 d_g6 e_g6
  replace g6 := g6.below b; have c_g6 := g6.cell; have f_g6 := g6.free; have a_g6 := fun o => (g6.alloc o).cell; have d_g6 := fun o o2 => ((g6.alloc o).alloc o2).cell; have e_g6 := fun o => (g6.alloc o).free; try clear c_g7 f_g7 a_g7 d_g7 e_g7
  replace g7 := g7.below b; have c_g7 := g7.cell; have f_g7 := g7.free; have a_g7 := fun o => (g7.alloc o).cell; have d_g7 := fun o o2 => ((g7.alloc o).alloc o2).cell; have e_g7 := fun o => (g7.alloc o).free; replace B := B.trans (b.mono B.size); clear b
  have HH := Lib.hid (And.intro g2 (And.intro g3 (And.intro g6 (And.intro g7 B))))
  clear c_g2 f_g2 a_g2 d_g2 e_g2 c_g3 f_g3 a_g3 d_g3 e_g3 c_g6 f_g6 a_g6 d_g6 e_g6 c_g7 f_g7 a_g7 d_g7 e_g7 g2 g3 g6 g7 B
  have hE6 : p6 < wa3.heap.size := HH.out.2.2.1.lt
  clear hE6
  go_wp2
  go_loopg [20] 2 (fun g i wr => ∃ k : Nat, k ≤ 2 ∧ g = 2 - k ∧ i = .int .i64 k ∧ Hid (Bx wr p2 60 #[.int .i64 0, .int .i64 0] ∧ Bx wr p3 61 #[.bool false, .bool false] ∧ Bx wr p6 121 (fnd a0 t0 a1 t1 k) ∧ Bx wr p7 61 (rgt b0 b1 k) ∧ Below w.heap.size w wr))
  case atStart => exact ⟨0, by omega, by omega, rfl, HH⟩
  case round =>
    clear HH
    obtain ⟨k, hk, rfl, rfl, hh⟩ := hrel
    have ix0 := fun W => (index_two 0 8 W).1
    have ix1 := fun W => (index_two 0 8 W).2
    have hk3 : k = 0 ∨ k = 1 ∨ k = 2 := by omega
    clear hk
    rcases hk3 with rfl | rfl | rfl
    · obtain ⟨G2, G3, G6, G7, B⟩ := hh.out
      go_wp2_with fail
      refine (R0.out _ (HV0.out.below B)).mono ?_
      rintro e wx ⟨rfl, b⟩
      have g2 := G2.below b; have g3 := G3.below b; have g6 := G6.below b; have g7 := G7.below b
      replace B := B.trans (b.mono B.size)
      clear b G2 G3 G6 G7 hh
      go_upto_region 10 with (fail)
      refine wp_gen (fun V => Bx V wx.heap.size 60 #[.int .i64 a0, .int .i64 t0] ∧ Below wx.heap.size wx V) ⟨Bx.at_ (by simp), (Below.refl _ _).alloc (Nat.le_refl _) _⟩ ?_
      rintro wy ⟨g10, b⟩
      have d2 := g2.lt; have d3 := g3.lt; have d6 := g6.lt; have d7 := g7.lt
      replace g2 := g2.below b; replace g3 := g3.below b; replace g6 := g6.below b; replace g7 := g7.below b
      replace B := B.trans (b.mono B.size)
      clear b
      obtain ⟨p10, hp10⟩ : ∃ p, p = wx.heap.size := ⟨_, rfl⟩
      rw [← hp10] at g10 d2 d3 d6 d7 ⊢
      clear hp10
      obtain ⟨L, hL⟩ : ∃ L, L = [Bk.mk p6 121 13 (fnd a0 t0 a1 t1 0) (fnd a0 t0 a1 t1 1), Bk.mk p7 61 15 (rgt b0 b1 0) (rgt b0 b1 1), Bk.mk p10 60 13 (#[.int .i64 a0, .int .i64 t0]) (#[.int .i64 a0, .int .i64 t0]), Bk.mk p2 60 13 (#[.int .i64 0, .int .i64 0]) (#[.int .i64 0, .int .i64 0]), Bk.mk p3 61 13 (#[.bool false, .bool false]) (#[.bool false, .bool false])] := ⟨_, rfl⟩
      have ST : FBx w (w.heap.size) L (fun _ => false) (World.drew wy) := FBx.start B (by subst hL; exact List.forall_mem_cons.2 ⟨g6, List.forall_mem_cons.2 ⟨g7, List.forall_mem_cons.2 ⟨g10, List.forall_mem_cons.2 ⟨g2, List.forall_mem_cons.2 ⟨g3, fun _ h => by cases h⟩⟩⟩⟩⟩)
      have DP : Dep (FBx w (w.heap.size) L) [13, 15] := FBx.dep (by subst hL; simp)
      have kb2 := fun x : FXN (FBx w (w.heap.size) L) => FBx.cell (Bk.mk p10 60 13 (#[.int .i64 a0, .int .i64 t0]) (#[.int .i64 a0, .int .i64 t0])) (by subst hL; simp) rfl x
      dsimp only at kb2
      have kb3 := fun x : FXN (FBx w (w.heap.size) L) => FBx.cell (Bk.mk p2 60 13 (#[.int .i64 0, .int .i64 0]) (#[.int .i64 0, .int .i64 0])) (by subst hL; simp) rfl x
      dsimp only at kb3
      have kb4 := fun x : FXN (FBx w (w.heap.size) L) => FBx.cell (Bk.mk p3 61 13 (#[.bool false, .bool false]) (#[.bool false, .bool false])) (by subst hL; simp) rfl x
      dsimp only at kb4
      have S1 := FBx.stepRow (P := Try.prog) (w0 := w) (B := w.heap.size) (L := L) (k := 13) (Bk.mk p6 121 13 (fnd a0 t0 a1 t1 0) (fnd a0 t0 a1 t1 1)) (by subst hL; simp) hB6 rfl (q := 0) (cells := #[.int .i64 a0, .int .i64 t0]) (by simp [fnd, rgt]) (by simp [fnd, rgt]) (by simp [putL, fnd, rgt]) (by simp [putL, fnd, rgt]) (by subst hL; exact List.forall_mem_cons.2 ⟨.inl rfl, List.forall_mem_cons.2 ⟨.inr ⟨by show p7 ≠ p6; omega, .inl (by show (15 : Nat) ≠ 13; decide)⟩, List.forall_mem_cons.2 ⟨.inr ⟨by show p10 ≠ p6; omega, .inr rfl⟩, List.forall_mem_cons.2 ⟨.inr ⟨by show p2 ≠ p6; omega, .inr rfl⟩, List.forall_mem_cons.2 ⟨.inr ⟨by show p3 ≠ p6; omega, .inr rfl⟩, fun _ h => by cases h⟩⟩⟩⟩⟩) (ty := 60) (by kernel_rfl) (by simp [Value.oneCell'])
      dsimp only at S1
      have HS1 := Lib.hid S1; clear S1
      have S1 := FBx.step1 (P := Try.prog) (w0 := w) (B := w.heap.size) (L := L) (k := 15) (Bk.mk p7 61 15 (rgt b0 b1 0) (rgt b0 b1 1)) (by subst hL; simp) hB7 rfl (q := 0) (u := .bool b0) (u0 := .bool false) (u1 := .bool b0) rfl rfl (by simp [rgt, fnd]) (by simp [rgt, fnd]) (by subst hL; exact List.forall_mem_cons.2 ⟨.inr ⟨by show p6 ≠ p7; omega, .inl (by show (13 : Nat) ≠ 15; decide)⟩, List.forall_mem_cons.2 ⟨.inl rfl, List.forall_mem_cons.2 ⟨.inr ⟨by show p10 ≠ p7; omega, .inr rfl⟩, List.forall_mem_cons.2 ⟨.inr ⟨by show p2 ≠ p7; omega, .inr rfl⟩, List.forall_mem_cons.2 ⟨.inr ⟨by show p3 ≠ p7; omega, .inr rfl⟩, fun _ h => by cases h⟩⟩⟩⟩⟩) (ty := 4) (fun W u0 h1 h2 => store_bool (by kernel_rfl) W _ u0 _ h1 h2)
      dsimp only at S1
      have HS2 := Lib.hid S1; clear S1
      have HST := Lib.hid ST; clear ST; have HL := Lib.hid hL; clear hL
      haveI : Nonempty (FXN (FBx w (w.heap.size) L)) := ⟨⟨_, _, HST.out⟩⟩
      clear kb3 kb4 g2 g3 g6 g7 g10 B d2 d3 d6 d7
      rcases KK.out.1 with ⟨rfl, hq⟩ | ⟨hq, rfl⟩
      all_goals
        refine wp_region_N (FBx w (w.heap.size) L) [13, 15] DP (by kernel_rfl) (by kernel_rfl) (by kernel_rfl) HST.out ?_
        iterate 6 (refine wpN_read DP rfl (by decide) ?_; go_big_quiet_step (fail); refine wpQuiet_nil ?_)
        iterate 3 (first | (refine wpN_skip DP (by decide) rfl ?_; simp only [Act.put, List.setIfInBounds_toArray, List.set_cons_zero, List.set_cons_succ]) | (refine wpN_read DP rfl (by decide) ?_; go_big_quiet_step (fail); refine wpQuiet_nil ?_))
        first | (refine wpN_skip DP (by decide) rfl ?_; simp only [Act.put, List.setIfInBounds_toArray, List.set_cons_zero, List.set_cons_succ]) | (refine wpN_len DP rfl (by decide) rfl (fun W => l1 _ W) ?_; simp only [Act.put, List.setIfInBounds_toArray, List.set_cons_zero, List.set_cons_succ])
        iterate 1 (first | (refine wpN_skip DP (by decide) rfl ?_; simp only [Act.put, List.setIfInBounds_toArray, List.set_cons_zero, List.set_cons_succ]) | (refine wpN_read DP rfl (by decide) ?_; go_big_quiet_step (fail); refine wpQuiet_nil ?_))
        iterate 2 (refine wpN_read DP rfl (by decide) ?_; go_big_quiet_step (fail); refine wpQuiet_nil ?_)
        refine wpN_store DP 60 (.tmp 45) (.tmp 35) rfl rfl (p := .pointer (some ⟨p6, 0, none⟩)) (u := .agg #[.int .i64 a0, .int .i64 t0]) (by rfl) (by rfl) HS1.out ?_
        simp only [Act.put, List.setIfInBounds_toArray, List.set_cons_zero, List.set_cons_succ]
        iterate 1 (refine wpN_read DP rfl (by decide) ?_; go_big_quiet_step (fail); refine wpQuiet_nil ?_)
        refine wpN_store DP 4 (.tmp 46) (.tmp 44) rfl rfl (p := .pointer (some ⟨p7, 0, none⟩)) (u := _) (by rfl) (by rfl) HS2.out ?_
        simp only [Act.put, List.setIfInBounds_toArray, List.set_cons_zero, List.set_cons_succ]
        intro wz hd
        obtain ⟨B, hd⟩ := FBx.done hd
        rw [HL.out] at hd
        obtain ⟨g6, hd⟩ := List.forall_mem_cons.1 hd
        obtain ⟨g7, hd⟩ := List.forall_mem_cons.1 hd
        obtain ⟨g10, hd⟩ := List.forall_mem_cons.1 hd
        obtain ⟨g2, hd⟩ := List.forall_mem_cons.1 hd
        obtain ⟨g3, hd⟩ := List.forall_mem_cons.1 hd
        dsimp only at g6 g7 g10 g2 g3
        clear hd HST HL DP this
        have HH := Lib.hid (And.intro g2 (And.intro g3 (And.intro g6 (And.intro g7 B))))
        clear g2 g3 g6 g7 g10 B HS1 HS2
        go_wp2
        go_roundg (2 - 1)
        case measure => omega
        case rel => exact ⟨1, by omega, rfl, by go_num, HH⟩
    · obtain ⟨G2, G3, G6, G7, B⟩ := hh.out
      go_wp2_with fail
      refine (R1.out _ (HV1.out.below B)).mono ?_
      rintro e wx ⟨rfl, b⟩
      have g2 := G2.below b; have g3 := G3.below b; have g6 := G6.below b; have g7 := G7.below b
      replace B := B.trans (b.mono B.size)
      clear b G2 G3 G6 G7 hh
      go_upto_region 10 with (fail)
      refine wp_gen (fun V => Bx V wx.heap.size 60 #[.int .i64 a1, .int .i64 t1] ∧ Below wx.heap.size wx V) ⟨Bx.at_ (by simp), (Below.refl _ _).alloc (Nat.le_refl _) _⟩ ?_
      rintro wy ⟨g10, b⟩
      have d2 := g2.lt; have d3 := g3.lt; have d6 := g6.lt; have d7 := g7.lt
      replace g2 := g2.below b; replace g3 := g3.below b; replace g6 := g6.below b; replace g7 := g7.below b
      replace B := B.trans (b.mono B.size)
      clear b
      obtain ⟨p10, hp10⟩ : ∃ p, p = wx.heap.size := ⟨_, rfl⟩
      rw [← hp10] at g10 d2 d3 d6 d7 ⊢
      clear hp10
      obtain ⟨L, hL⟩ : ∃ L, L = [Bk.mk p6 121 13 (fnd a0 t0 a1 t1 1) (fnd a0 t0 a1 t1 2), Bk.mk p7 61 15 (rgt b0 b1 1) (rgt b0 b1 2), Bk.mk p10 60 13 (#[.int .i64 a1, .int .i64 t1]) (#[.int .i64 a1, .int .i64 t1]), Bk.mk p2 60 13 (#[.int .i64 0, .int .i64 0]) (#[.int .i64 0, .int .i64 0]), Bk.mk p3 61 13 (#[.bool false, .bool false]) (#[.bool false, .bool false])] := ⟨_, rfl⟩
      have ST : FBx w (w.heap.size) L (fun _ => false) (World.drew wy) := FBx.start B (by subst hL; exact List.forall_mem_cons.2 ⟨g6, List.forall_mem_cons.2 ⟨g7, List.forall_mem_cons.2 ⟨g10, List.forall_mem_cons.2 ⟨g2, List.forall_mem_cons.2 ⟨g3, fun _ h => by cases h⟩⟩⟩⟩⟩)
      have DP : Dep (FBx w (w.heap.size) L) [13, 15] := FBx.dep (by subst hL; simp)
      have kb2 := fun x : FXN (FBx w (w.heap.size) L) => FBx.cell (Bk.mk p10 60 13 (#[.int .i64 a1, .int .i64 t1]) (#[.int .i64 a1, .int .i64 t1])) (by subst hL; simp) rfl x
      dsimp only at kb2
      have kb3 := fun x : FXN (FBx w (w.heap.size) L) => FBx.cell (Bk.mk p2 60 13 (#[.int .i64 0, .int .i64 0]) (#[.int .i64 0, .int .i64 0])) (by subst hL; simp) rfl x
      dsimp only at kb3
      have kb4 := fun x : FXN (FBx w (w.heap.size) L) => FBx.cell (Bk.mk p3 61 13 (#[.bool false, .bool false]) (#[.bool false, .bool false])) (by subst hL; simp) rfl x
      dsimp only at kb4
      have S1 := FBx.stepRow (P := Try.prog) (w0 := w) (B := w.heap.size) (L := L) (k := 13) (Bk.mk p6 121 13 (fnd a0 t0 a1 t1 1) (fnd a0 t0 a1 t1 2)) (by subst hL; simp) hB6 rfl (q := 2) (cells := #[.int .i64 a1, .int .i64 t1]) (by simp [fnd, rgt]) (by simp [fnd, rgt]) (by simp [putL, fnd, rgt]) (by simp [putL, fnd, rgt]) (by subst hL; exact List.forall_mem_cons.2 ⟨.inl rfl, List.forall_mem_cons.2 ⟨.inr ⟨by show p7 ≠ p6; omega, .inl (by show (15 : Nat) ≠ 13; decide)⟩, List.forall_mem_cons.2 ⟨.inr ⟨by show p10 ≠ p6; omega, .inr rfl⟩, List.forall_mem_cons.2 ⟨.inr ⟨by show p2 ≠ p6; omega, .inr rfl⟩, List.forall_mem_cons.2 ⟨.inr ⟨by show p3 ≠ p6; omega, .inr rfl⟩, fun _ h => by cases h⟩⟩⟩⟩⟩) (ty := 60) (by kernel_rfl) (by simp [Value.oneCell'])
      dsimp only at S1
      have HS1 := Lib.hid S1; clear S1
      have S1 := FBx.step1 (P := Try.prog) (w0 := w) (B := w.heap.size) (L := L) (k := 15) (Bk.mk p7 61 15 (rgt b0 b1 1) (rgt b0 b1 2)) (by subst hL; simp) hB7 rfl (q := 1) (u := .bool b1) (u0 := .bool false) (u1 := .bool b1) rfl rfl (by simp [rgt, fnd]) (by simp [rgt, fnd]) (by subst hL; exact List.forall_mem_cons.2 ⟨.inr ⟨by show p6 ≠ p7; omega, .inl (by show (13 : Nat) ≠ 15; decide)⟩, List.forall_mem_cons.2 ⟨.inl rfl, List.forall_mem_cons.2 ⟨.inr ⟨by show p10 ≠ p7; omega, .inr rfl⟩, List.forall_mem_cons.2 ⟨.inr ⟨by show p2 ≠ p7; omega, .inr rfl⟩, List.forall_mem_cons.2 ⟨.inr ⟨by show p3 ≠ p7; omega, .inr rfl⟩, fun _ h => by cases h⟩⟩⟩⟩⟩) (ty := 4) (fun W u0 h1 h2 => store_bool (by kernel_rfl) W _ u0 _ h1 h2)
      dsimp only at S1
      have HS2 := Lib.hid S1; clear S1
      have HST := Lib.hid ST; clear ST; have HL := Lib.hid hL; clear hL
      haveI : Nonempty (FXN (FBx w (w.heap.size) L)) := ⟨⟨_, _, HST.out⟩⟩
      clear kb3 kb4 g2 g3 g6 g7 g10 B d2 d3 d6 d7
      rcases KK.out.2 with ⟨rfl, hq⟩ | ⟨hq, rfl⟩
      all_goals
        refine wp_region_N (FBx w (w.heap.size) L) [13, 15] DP (by kernel_rfl) (by kernel_rfl) (by kernel_rfl) HST.out ?_
        iterate 6 (refine wpN_read DP rfl (by decide) ?_; go_big_quiet_step (fail); refine wpQuiet_nil ?_)
        iterate 3 (first | (refine wpN_skip DP (by decide) rfl ?_; simp only [Act.put, List.setIfInBounds_toArray, List.set_cons_zero, List.set_cons_succ]) | (refine wpN_read DP rfl (by decide) ?_; go_big_quiet_step (fail); refine wpQuiet_nil ?_))
        first | (refine wpN_skip DP (by decide) rfl ?_; simp only [Act.put, List.setIfInBounds_toArray, List.set_cons_zero, List.set_cons_succ]) | (refine wpN_len DP rfl (by decide) rfl (fun W => l1 _ W) ?_; simp only [Act.put, List.setIfInBounds_toArray, List.set_cons_zero, List.set_cons_succ])
        iterate 1 (first | (refine wpN_skip DP (by decide) rfl ?_; simp only [Act.put, List.setIfInBounds_toArray, List.set_cons_zero, List.set_cons_succ]) | (refine wpN_read DP rfl (by decide) ?_; go_big_quiet_step (fail); refine wpQuiet_nil ?_))
        iterate 2 (refine wpN_read DP rfl (by decide) ?_; go_big_quiet_step (fail); refine wpQuiet_nil ?_)
        refine wpN_store DP 60 (.tmp 45) (.tmp 35) rfl rfl (p := .pointer (some ⟨p6, 2, none⟩)) (u := .agg #[.int .i64 a1, .int .i64 t1]) (by rfl) (by rfl) HS1.out ?_
        simp only [Act.put, List.setIfInBounds_toArray, List.set_cons_zero, List.set_cons_succ]
        iterate 1 (refine wpN_read DP rfl (by decide) ?_; go_big_quiet_step (fail); refine wpQuiet_nil ?_)
        refine wpN_store DP 4 (.tmp 46) (.tmp 44) rfl rfl (p := .pointer (some ⟨p7, 1, none⟩)) (u := _) (by rfl) (by rfl) HS2.out ?_
        simp only [Act.put, List.setIfInBounds_toArray, List.set_cons_zero, List.set_cons_succ]
        intro wz hd
        obtain ⟨B, hd⟩ := FBx.done hd
        rw [HL.out] at hd
        obtain ⟨g6, hd⟩ := List.forall_mem_cons.1 hd
        obtain ⟨g7, hd⟩ := List.forall_mem_cons.1 hd
        obtain ⟨g10, hd⟩ := List.forall_mem_cons.1 hd
        obtain ⟨g2, hd⟩ := List.forall_mem_cons.1 hd
        obtain ⟨g3, hd⟩ := List.forall_mem_cons.1 hd
        dsimp only at g6 g7 g10 g2 g3
        clear hd HST HL DP this
        have HH := Lib.hid (And.intro g2 (And.intro g3 (And.intro g6 (And.intro g7 B))))
        clear g2 g3 g6 g7 g10 B HS1 HS2
        go_wp2
        go_roundg (2 - 2)
        case measure => omega
        case rel => exact ⟨2, by omega, rfl, by go_num, HH⟩
    · obtain ⟨G2, G3, G6, G7, B⟩ := hh.out
      have g2 := G2; have g3 := G3; have g6 := G6; have g7 := G7
      have d2 := g2.lt; have d3 := g3.lt; have d6 := g6.lt; have d7 := g7.lt
      clear G2 G3 G6 G7 hh ix0 ix1 R0 R1 HV0 HV1 sl0 sl1
      cases b0
      · cases b1
        · obtain ⟨rfl, rfl, rfl⟩ := FF.out.2.2 rfl rfl
          have c7 : wr.cell? ⟨p7, 0, none⟩ = some (.bool false) := g7.cell 0; have c7b : wr.cell? ⟨p7, 1, none⟩ = some (.bool false) := g7.cell 1; have c2 := g2.cell; have f2 := g2.free; have c3 := g3.cell; have f3 := g3.free
          go_wp2
          refine bodyPost_ret (v := .tuple #[.agg #[.int .i64 0, .int .i64 0], .agg #[.bool false, .bool false], .int .i64 50]) (by simp [results, Try.results37, go_sem, c2, c3, f2, f3]) rfl ⟨rfl, ?_⟩
          (repeat (first | refine Below.setCell ?_ (by first | exact hB2 | exact hB3 | (simp <;> omega)) _)); exact B
        · obtain ⟨rfl, rfl, rfl⟩ := FF.out.2.1 rfl rfl
          have c7 : wr.cell? ⟨p7, 0, none⟩ = some (.bool false) := g7.cell 0; have c7b : wr.cell? ⟨p7, 1, none⟩ = some (.bool true) := g7.cell 1
          go_upto_region 15 with (fail)
          clear c7 c7b
          obtain ⟨L, hL⟩ : ∃ L, L = [Bk.mk p2 60 3 (#[.int .i64 0, .int .i64 0]) (#[.int .i64 W, .int .i64 T]), Bk.mk p3 61 4 (#[.bool false, .bool false]) (#[.bool false, .bool true]), Bk.mk p6 121 3 (#[.int .i64 a0, .int .i64 t0, .int .i64 W, .int .i64 T]) (#[.int .i64 a0, .int .i64 t0, .int .i64 W, .int .i64 T]), Bk.mk p7 61 3 (#[.bool false, .bool true]) (#[.bool false, .bool true])] := ⟨_, rfl⟩
          have ST : FBx w (w.heap.size) L (fun _ => false) (World.drew wr) := FBx.start B (by subst hL; exact List.forall_mem_cons.2 ⟨g2, List.forall_mem_cons.2 ⟨g3, List.forall_mem_cons.2 ⟨g6, List.forall_mem_cons.2 ⟨g7, fun _ h => by cases h⟩⟩⟩⟩)
          have DP : Dep (FBx w (w.heap.size) L) [3, 4] := FBx.dep (by subst hL; simp)
          have kb2 := fun x : FXN (FBx w (w.heap.size) L) => FBx.cell (Bk.mk p6 121 3 (#[.int .i64 a0, .int .i64 t0, .int .i64 W, .int .i64 T]) (#[.int .i64 a0, .int .i64 t0, .int .i64 W, .int .i64 T])) (by subst hL; simp) rfl x
          dsimp only at kb2
          have kb3 := fun x : FXN (FBx w (w.heap.size) L) => FBx.cell (Bk.mk p7 61 3 (#[.bool false, .bool true]) (#[.bool false, .bool true])) (by subst hL; simp) rfl x
          dsimp only at kb3
          have S1 := FBx.stepRow (P := Try.prog) (w0 := w) (B := w.heap.size) (L := L) (k := 3) (Bk.mk p2 60 3 (#[.int .i64 0, .int .i64 0]) (#[.int .i64 W, .int .i64 T])) (by subst hL; simp) hB2 rfl (q := 0) (cells := #[.int .i64 W, .int .i64 T]) (by simp [fnd, rgt]) (by simp [fnd, rgt]) (by simp [putL, fnd, rgt]) (by simp [putL, fnd, rgt]) (by subst hL; exact List.forall_mem_cons.2 ⟨.inl rfl, List.forall_mem_cons.2 ⟨.inr ⟨by show p3 ≠ p2; omega, .inl (by show (4 : Nat) ≠ 3; decide)⟩, List.forall_mem_cons.2 ⟨.inr ⟨by show p6 ≠ p2; omega, .inr rfl⟩, List.forall_mem_cons.2 ⟨.inr ⟨by show p7 ≠ p2; omega, .inr rfl⟩, fun _ h => by cases h⟩⟩⟩⟩) (ty := 60) (by kernel_rfl) (by simp [Value.oneCell'])
          dsimp only at S1
          have HS1 := Lib.hid S1; clear S1
          have S1 := FBx.stepRow (P := Try.prog) (w0 := w) (B := w.heap.size) (L := L) (k := 4) (Bk.mk p3 61 4 (#[.bool false, .bool false]) (#[.bool false, .bool true])) (by subst hL; simp) hB3 rfl (q := 0) (cells := #[.bool false, .bool true]) (by simp [fnd, rgt]) (by simp [fnd, rgt]) (by simp [putL, fnd, rgt]) (by simp [putL, fnd, rgt]) (by subst hL; exact List.forall_mem_cons.2 ⟨.inr ⟨by show p2 ≠ p3; omega, .inl (by show (3 : Nat) ≠ 4; decide)⟩, List.forall_mem_cons.2 ⟨.inl rfl, List.forall_mem_cons.2 ⟨.inr ⟨by show p6 ≠ p3; omega, .inr rfl⟩, List.forall_mem_cons.2 ⟨.inr ⟨by show p7 ≠ p3; omega, .inr rfl⟩, fun _ h => by cases h⟩⟩⟩⟩) (ty := 61) (by kernel_rfl) (by simp [Value.oneCell'])
          dsimp only at S1
          have HS2 := Lib.hid S1; clear S1
          have HST := Lib.hid ST; clear ST; have HL := Lib.hid hL; clear hL
          haveI : Nonempty (FXN (FBx w (w.heap.size) L)) := ⟨⟨_, _, HST.out⟩⟩
          clear g2 g3 g6 g7 B d2 d3 d6 d7
          refine wp_region_N (FBx w (w.heap.size) L) [3, 4] DP (by kernel_rfl) (by kernel_rfl) (by kernel_rfl) HST.out ?_
          iterate 3 (refine wpN_read DP rfl (by decide) ?_; go_big_quiet_step (fail); refine wpQuiet_nil ?_)
          refine wpN_store DP 60 (.tmp 2) (.tmp 58) rfl rfl (p := .pointer (some ⟨p2, 0, none⟩)) (u := _) (by rfl) (by rfl) HS1.out ?_
          simp only [Act.put, List.setIfInBounds_toArray, List.set_cons_zero, List.set_cons_succ]
          refine wpN_store DP 61 (.tmp 3) (.tmp 59) rfl rfl (p := .pointer (some ⟨p3, 0, none⟩)) (u := _) (by rfl) (by rfl) HS2.out ?_
          simp only [Act.put, List.setIfInBounds_toArray, List.set_cons_zero, List.set_cons_succ]
          iterate 1 (refine wpN_read DP rfl (by decide) ?_; go_big_quiet_step (fail); refine wpQuiet_nil ?_)
          intro wz hd
          obtain ⟨B, hd⟩ := FBx.done hd
          rw [HL.out] at hd
          obtain ⟨g2, hd⟩ := List.forall_mem_cons.1 hd
          obtain ⟨g3, hd⟩ := List.forall_mem_cons.1 hd
          obtain ⟨g6, hd⟩ := List.forall_mem_cons.1 hd
          obtain ⟨g7, hd⟩ := List.forall_mem_cons.1 hd
          dsimp only at g2 g3 g6 g7
          clear hd HST HL DP this
          have c2 := g2.cell; have f2 := g2.free; have c3 := g3.cell; have f3 := g3.free
          go_wp2
          refine bodyPost_ret (v := .tuple #[.agg #[.int .i64 W, .int .i64 T], .agg #[.bool false, .bool true], .int .i64 0]) (by simp [results, Try.results37, go_sem, c2, c3, f2, f3]) rfl ⟨rfl, B⟩
      · obtain ⟨rfl, rfl, rfl⟩ := FF.out.1 rfl
        have c7 : wr.cell? ⟨p7, 0, none⟩ = some (.bool true) := g7.cell 0
        go_upto_region 13 with (fail)
        clear c7
        obtain ⟨L, hL⟩ : ∃ L, L = [Bk.mk p2 60 3 (#[.int .i64 0, .int .i64 0]) (#[.int .i64 W, .int .i64 T]), Bk.mk p3 61 4 (#[.bool false, .bool false]) (#[.bool true, .bool b1]), Bk.mk p6 121 3 (#[.int .i64 W, .int .i64 T, .int .i64 a1, .int .i64 t1]) (#[.int .i64 W, .int .i64 T, .int .i64 a1, .int .i64 t1]), Bk.mk p7 61 3 (#[.bool true, .bool b1]) (#[.bool true, .bool b1])] := ⟨_, rfl⟩
        have ST : FBx w (w.heap.size) L (fun _ => false) (World.drew wr) := FBx.start B (by subst hL; exact List.forall_mem_cons.2 ⟨g2, List.forall_mem_cons.2 ⟨g3, List.forall_mem_cons.2 ⟨g6, List.forall_mem_cons.2 ⟨g7, fun _ h => by cases h⟩⟩⟩⟩)
        have DP : Dep (FBx w (w.heap.size) L) [3, 4] := FBx.dep (by subst hL; simp)
        have kb2 := fun x : FXN (FBx w (w.heap.size) L) => FBx.cell (Bk.mk p6 121 3 (#[.int .i64 W, .int .i64 T, .int .i64 a1, .int .i64 t1]) (#[.int .i64 W, .int .i64 T, .int .i64 a1, .int .i64 t1])) (by subst hL; simp) rfl x
        dsimp only at kb2
        have kb3 := fun x : FXN (FBx w (w.heap.size) L) => FBx.cell (Bk.mk p7 61 3 (#[.bool true, .bool b1]) (#[.bool true, .bool b1])) (by subst hL; simp) rfl x
        dsimp only at kb3
        have S1 := FBx.stepRow (P := Try.prog) (w0 := w) (B := w.heap.size) (L := L) (k := 3) (Bk.mk p2 60 3 (#[.int .i64 0, .int .i64 0]) (#[.int .i64 W, .int .i64 T])) (by subst hL; simp) hB2 rfl (q := 0) (cells := #[.int .i64 W, .int .i64 T]) (by simp [fnd, rgt]) (by simp [fnd, rgt]) (by simp [putL, fnd, rgt]) (by simp [putL, fnd, rgt]) (by subst hL; exact List.forall_mem_cons.2 ⟨.inl rfl, List.forall_mem_cons.2 ⟨.inr ⟨by show p3 ≠ p2; omega, .inl (by show (4 : Nat) ≠ 3; decide)⟩, List.forall_mem_cons.2 ⟨.inr ⟨by show p6 ≠ p2; omega, .inr rfl⟩, List.forall_mem_cons.2 ⟨.inr ⟨by show p7 ≠ p2; omega, .inr rfl⟩, fun _ h => by cases h⟩⟩⟩⟩) (ty := 60) (by kernel_rfl) (by simp [Value.oneCell'])
        dsimp only at S1
        have HS1 := Lib.hid S1; clear S1
        have S1 := FBx.stepRow (P := Try.prog) (w0 := w) (B := w.heap.size) (L := L) (k := 4) (Bk.mk p3 61 4 (#[.bool false, .bool false]) (#[.bool true, .bool b1])) (by subst hL; simp) hB3 rfl (q := 0) (cells := #[.bool true, .bool b1]) (by simp [fnd, rgt]) (by simp [fnd, rgt]) (by simp [putL, fnd, rgt]) (by simp [putL, fnd, rgt]) (by subst hL; exact List.forall_mem_cons.2 ⟨.inr ⟨by show p2 ≠ p3; omega, .inl (by show (3 : Nat) ≠ 4; decide)⟩, List.forall_mem_cons.2 ⟨.inl rfl, List.forall_mem_cons.2 ⟨.inr ⟨by show p6 ≠ p3; omega, .inr rfl⟩, List.forall_mem_cons.2 ⟨.inr ⟨by show p7 ≠ p3; omega, .inr rfl⟩, fun _ h => by cases h⟩⟩⟩⟩) (ty := 61) (by kernel_rfl) (by simp [Value.oneCell'])
        dsimp only at S1
        have HS2 := Lib.hid S1; clear S1
        have HST := Lib.hid ST; clear ST; have HL := Lib.hid hL; clear hL
        haveI : Nonempty (FXN (FBx w (w.heap.size) L)) := ⟨⟨_, _, HST.out⟩⟩
        clear g2 g3 g6 g7 B d2 d3 d6 d7
        refine wp_region_N (FBx w (w.heap.size) L) [3, 4] DP (by kernel_rfl) (by kernel_rfl) (by kernel_rfl) HST.out ?_
        iterate 3 (refine wpN_read DP rfl (by decide) ?_; go_big_quiet_step (fail); refine wpQuiet_nil ?_)
        refine wpN_store DP 60 (.tmp 2) (.tmp 52) rfl rfl (p := .pointer (some ⟨p2, 0, none⟩)) (u := _) (by rfl) (by rfl) HS1.out ?_
        simp only [Act.put, List.setIfInBounds_toArray, List.set_cons_zero, List.set_cons_succ]
        refine wpN_store DP 61 (.tmp 3) (.tmp 53) rfl rfl (p := .pointer (some ⟨p3, 0, none⟩)) (u := _) (by rfl) (by rfl) HS2.out ?_
        simp only [Act.put, List.setIfInBounds_toArray, List.set_cons_zero, List.set_cons_succ]
        iterate 1 (refine wpN_read DP rfl (by decide) ?_; go_big_quiet_step (fail); refine wpQuiet_nil ?_)
        intro wz hd
        obtain ⟨B, hd⟩ := FBx.done hd
        rw [HL.out] at hd
        obtain ⟨g2, hd⟩ := List.forall_mem_cons.1 hd
        obtain ⟨g3, hd⟩ := List.forall_mem_cons.1 hd
        obtain ⟨g6, hd⟩ := List.forall_mem_cons.1 hd
        obtain ⟨g7, hd⟩ := List.forall_mem_cons.1 hd
        dsimp only at g2 g3 g6 g7
        clear hd HST HL DP this
        have c2 := g2.cell; have f2 := g2.free; have c3 := g3.cell; have f3 := g3.free
        go_wp2
        refine bodyPost_ret (v := .tuple #[.agg #[.int .i64 W, .int .i64 T], .agg #[.bool true, .bool b1], .int .i64 0]) (by simp [results, Try.results37, go_sem, c2, c3, f2, f3]) rfl ⟨rfl, B⟩
end Go.Proofs.Ytbfmdbeeiicabaa
namespace Go.Proofs.Ytbfmdbeeiicabaa.L19
open L02 L07 L13 L14 L15 L18 L20
/-- the number of the block at an address -/
def idx : List Hb → Int → Option Nat
  | [], _ => none
  | b :: O, a => if b.at_ = a then some 0 else (idx O a).map (· + 1)
def refV (O : List Hb) (v : UInt64) : UInt64 := match idx O v.toNat with | some i => UInt64.ofNat (i + 1) | none => 0
def fldV (O : List Hb) (k : UInt8) (v : UInt64) : UInt64 := if k.toNat = 3 then refV O v else v
def obFs (l : List UInt64) (T : List (List UInt8)) (O : List Hb) (b : Hb) : List UInt64 := (List.range (kindsB T b).length).map fun i => fldV O ((kindsB T b).getD i 0) (fw l b i)
def obOf (l : List UInt64) (T : List (List UInt8)) (O : List Hb) (b : Hb) : Ob := ⟨b.ty, obFs l T O b⟩
def slOf (O : List Hb) (s : Sl) : Sl := if s.used = true then ⟨s.gen, true, match idx O s.at_ with | some i => (i : Int) | none => -1⟩ else s
def seen (l : List UInt64) : Mo := ⟨T19 l, (O19 l).map (obOf l (T19 l) (O19 l)), (slots l).map (slOf (O19 l))⟩
def ofM (l : List UInt64) : Mo := if chk19 l = 0 then seen l else .nil
theorem idx_some : ∀ {O : List Hb} {a : Int} {i : Nat}, idx O a = some i → ∃ b, O[i]? = some b ∧ b.at_ = a
  | [], a, i, h => by cases h
  | b :: O, a, i, h => by
    rw [idx] at h
    by_cases hb : b.at_ = a
    · rw [if_pos hb] at h; injection h with h; subst h; exact ⟨b, rfl, hb⟩
    · rw [if_neg hb] at h
      cases h2 : idx O a with
      | none => rw [h2] at h; cases h
      | some j =>
        rw [h2] at h; injection h with h
        obtain ⟨c, h3, h4⟩ := idx_some h2
        subst h
        exact ⟨c, h3, h4⟩
theorem idx_none : ∀ {O : List Hb} {a : Int}, idx O a = none ↔ ¬ IsObj O a
  | [], a => ⟨fun _ ⟨b, hb, _⟩ => (by cases hb), fun _ => rfl⟩
  | b :: O, a => by
    rw [idx]
    by_cases hb : b.at_ = a
    · rw [if_pos hb]
      exact ⟨fun h => (by cases h), fun h => absurd ⟨b, List.mem_cons_self, hb⟩ h⟩
    · rw [if_neg hb, Option.map_eq_none_iff, idx_none]
      constructor
      · rintro h ⟨c, hc, e⟩
        rcases List.mem_cons.1 hc with rfl | hc
        · exact hb e
        · exact h ⟨c, hc, e⟩
      · rintro h ⟨c, hc, e⟩; exact h ⟨c, List.mem_cons_of_mem _ hc, e⟩
theorem idx_of {O : List Hb} {a : Int} (h : IsObj O a) : ∃ i b, idx O a = some i ∧ O[i]? = some b ∧ b.at_ = a ∧ i < O.length := by
  cases h2 : idx O a with
  | none => exact absurd h (idx_none.1 h2)
  | some i =>
    obtain ⟨b, h3, h4⟩ := idx_some h2
    exact ⟨i, b, rfl, h3, h4, (List.getElem?_eq_some_iff.1 h3).1⟩
theorem obFs_len (l : List UInt64) (T : List (List UInt8)) (O : List Hb) (b : Hb) : (obFs l T O b).length = (kindsB T b).length := by simp [obFs]
theorem obFs_get {l : List UInt64} {T : List (List UInt8)} {O : List Hb} {b : Hb} {i : Nat} (h : i < (kindsB T b).length) : (obFs l T O b)[i]? = some (fldV O ((kindsB T b).getD i 0) (fw l b i)) := by
  simp [obFs, List.getElem?_map, List.getElem?_range h]
theorem all_len {l : List UInt64} (h : allErr l = 0) : (allL l).length ≤ 960 := by
  obtain ⟨hs, hp⟩ := allErr_ok h
  have := chain_len (chain_iff.1 (parsed_ok.1 hp).1)
  have := hs.2.1
  omega
theorem objs_len {l : List UInt64} (h : allErr l = 0) : (O19 l).length ≤ 960 := Nat.le_trans (List.length_filter_le _ _) (all_len h)
theorem T19_ok {l : List UInt64} (h : tabErr l (sT l) = 0) : (T19 l).length ≤ 8 ∧ ∀ t ∈ T19 l, kErr t = 0 := by
  have h0 := h
  unfold tabErr at h
  split at h
  · split at h
    · rename_i h1 h2
      split at h
      · rename_i h3
        have e : T19 l = tysTo l (sT l).toNat := by unfold T19 tabT; rw [if_pos h0]
        refine ⟨by rw [e, tysTo_len]; omega, fun t ht => ?_⟩
        rw [e] at ht
        obtain ⟨i, hi, rfl⟩ := List.mem_map.1 ht
        have hi' := List.mem_range.1 hi
        have := h3 i (by omega)
        unfold TyOk at this
        rw [if_pos hi'] at this
        rw [rdL, if_pos this]
        exact this.2.1
      · omega
    · omega
  · omega
theorem refV_lt {O : List Hb} {v : UInt64} (h : O.length ≤ 960) : (refV O v).toNat ≤ O.length := by
  unfold refV
  cases h2 : idx O v.toNat with
  | none => simp
  | some i =>
    obtain ⟨b, h3, _⟩ := idx_some h2
    have := (List.getElem?_eq_some_iff.1 h3).1
    show (UInt64.ofNat (i + 1)).toNat ≤ _
    rw [UInt64.toNat_ofNat', Nat.mod_eq_of_lt (by omega)]; omega
theorem seen_slot {l : List UInt64} (h : Rt l) {s : Sl} (hs : s ∈ slots l) : Right s := by
  have hr := allR_of h.sl
  obtain ⟨x, hx, rfl⟩ := List.mem_map.1 hs
  exact hr x hx
/-- the model of a right image is valid -/
theorem seen_chk {l : List UInt64} (h : Rt l) : L20.chk (seen l) = 0 := by
  have hT := T19_ok h.ty
  have hO := objs_len h.al
  refine chk_zero (by show ¬ (8 < (T19 l).length ∨ 960 < ((O19 l).map _).length); rw [List.length_map]; omega) ⟨by show ((slots l).map _).length = 16; rw [List.length_map]; exact slots_len' h.sl, hT.2, fun o ho => ?_, fun s hs => ?_⟩
  · obtain ⟨b, hb, rfl⟩ := List.mem_map.1 ho
    obtain ⟨a, h1, h2, h3, h4, h5, h6, h7, h8, _⟩ := objs_at h.al hb
    have hok : BkOk b := by rw [h6]; exact stand_ok h5
    have hty := (h.good 8 (by omega) (by omega) b hb).1
    refine ⟨⟨hok.bounds.2.2.2.2.1, hty⟩, obFs_len _ _ _ _, fun i hi => ?_⟩
    have hi' : i < (kindsB (T19 l) b).length := by
      have : i < (obFs l (T19 l) (O19 l) b).length := hi
      rw [obFs_len] at this; exact this
    show FdOk ((O19 l).map _).length ((kindsB (T19 l) b).getD i 0) ((obFs l (T19 l) (O19 l) b).getD i 0)
    rw [List.getD_eq_getElem?_getD (l := obFs _ _ _ _), obFs_get hi', List.length_map]
    show FdOk _ _ (fldV _ _ _)
    refine ⟨fun h2 => ?_, fun h3 => ?_⟩
    · rw [fldV, if_neg (by omega)]
      exact h.good 10 (by omega) (by omega) b hb i hi' h2
    · rw [fldV, if_pos h3]; exact refV_lt hO
  · obtain ⟨s', hs', rfl⟩ := List.mem_map.1 hs
    have hr := seen_slot h hs'
    obtain ⟨r1, r2, r3, r4⟩ := hr
    show SlOk ((O19 l).map _).length (slOf _ _)
    rw [List.length_map]
    unfold slOf
    by_cases hu : s'.used = true
    · rw [if_pos hu]
      obtain ⟨i, b, e1, _, _, e2⟩ := idx_of (h.slots s' hs' hu)
      rw [e1]
      exact ⟨⟨r1, r2⟩, fun e => (by cases e), fun _ => ⟨(r4 hu).1, by dsimp only; omega, by dsimp only; omega⟩⟩
    · rw [if_neg hu]
      have hf : s'.used = false := by simpa using hu
      exact ⟨⟨r1, r2⟩, fun _ => r3 hf, fun e => absurd e hu⟩
theorem idx_inj {O : List Hb} {a c : Int} {i : Nat} (h1 : idx O a = some i) (h2 : idx O c = some i) : a = c := by
  obtain ⟨b, h3, h4⟩ := idx_some h1
  obtain ⟨b', h5, h6⟩ := idx_some h2
  rw [h3] at h5; injection h5 with h5; subst h5; rw [← h4, h6]
end Go.Proofs.Ytbfmdbeeiicabaa.L19
namespace Go.Proofs.Ytbfmdbeeiicabaa
open Go Go.RowKit
section
variable {P : Program} {ops : Array Oper} {rest : List Oper} {o : Oper} {a : Act} {Q : Exit → Act → World → Prop} {w : World}
theorem run_append_own2 (base : Nat) (t ty e : TypeId) (i : TypeInfo) (z : Value) (size bytes : Nat) (ht : P.underlying t = some (.slice e)) (hi : P.info? e = some i) (hz : i.zero = some z)
    (hsize : i.size = size) (hby : i.bytes = bytes) (hzs : z.cells.size = size) (hsz : 0 < size) (v : Value) (n : Nat) (xs : List Value) (hown : w.ownsRow base e size v n xs)
    (ad : Addr) (m c : Nat) (news : List Value) (hl : news.length = m * size) (hnews : ∀ j u, news[j]? = some u → w.cell? (ad.add j) = some u) (h1 : ∀ u ∈ news, u.oneCell' = true)
    (h63 : n + m ≤ maxLen) (hbytes : (n + m) * bytes ≤ 140737488355328) (hbase : base ≤ w.heap.size) :
    ∃ v' w', (Builtin.append_ #[t, t] ty #[v, .slice (some ad) m c]).run P w = .ok v' w' ∧ w'.ownsRow base e size v' (n + m) (xs ++ news) ∧ w.grownBy w' v.ownBlock ∧ ∀ g, v'.ownBlock = some g → v.ownBlock = some g ∨ w.heap.size ≤ g := by
  obtain ⟨v', w', hrun, r1, r2, _⟩ := run_append_own (P := P) w base t ty e i z size bytes ht hi hz hsize hby hzs hsz v n xs hown ad m c news hl hnews h1 h63 hbytes hbase
  refine ⟨v', w', hrun, r1, r2, fun g hg => ?_⟩
  rcases hown.2 with ⟨rfl, rfl⟩ | ⟨g0, cap, cur, rfl, hB, hg0, hc, hm, hcs, htk⟩
  · have hxs : xs = [] := List.eq_nil_of_length_eq_zero (by have := hown.1; simpa using this)
    obtain ⟨v2, w2, hrun2, r3, _⟩ := run_append_own (P := P) w w.heap.size t ty e i z size bytes ht hi hz hsize hby hzs hsz (.slice none 0 0) 0 [] (World.ownsRow_nil w _ _ _) ad m c news hl hnews h1 h63 hbytes (Nat.le_refl _)
    rw [hrun] at hrun2
    injection hrun2 with e1 e2
    subst e1; subst e2
    exact .inr (r3.lt g hg).1
  · subst hsize
    have hcell : ∀ j u, xs[j]? = some u → w.cell? ((⟨g0, 0, none⟩ : Addr).add j) = some u := fun j u hu => hown.cells (g := g0) rfl j u hu
    by_cases hroom : n + m ≤ cap
    · have hr := run_append_room_cells (P := P) w t ty e i ht hi g0 0 n cap ad m c news hl hnews h1 hroom (fun j hj => by
        have hlt : 0 + n * i.size + j < cur.size := by
          have : (n + m) * i.size ≤ cap * i.size := Nat.mul_le_mul hroom (Nat.le_refl _)
          rw [Nat.add_mul] at this; rw [hcs]; rw [hl] at hj; omega
        have := cell_of_row w g0 (0 + n * i.size + j) cur e (0, 0) hg0
        rw [this, Array.getElem?_eq_getElem hlt]; rfl) (fun j hj => frozen_of_row w g0 _ cur e hg0)
      rw [hrun] at hr
      injection hr with e1 e2
      subst e1
      exact .inl hg
    · obtain ⟨v2, w2, hrun2, r3, _⟩ := run_append_arg_grows (P := P) w t ty e i z i.size bytes ht hi hz rfl hby hzs hsz ⟨g0, 0, none⟩ n cap xs hown.1 hcell ad m c news hl hnews (by omega) h63 hbytes
      rw [hrun] at hrun2
      injection hrun2 with e1 e2
      subst e1; subst e2
      exact .inr (r3.lt g hg).1
theorem wpList_append2 (hgd : Region.wanted o (yielded ops a.tmps) = true) {s x : Operand} {t e B sz by_ : Nat} (ho : o.op = .call { callee := .builtin .append, args := #[s, x], argTypes := #[t, t] })
    {v z : Value} {n m c : Nat} {xs ys : List Value} (hs : a.eval s = v) {ad : Addr} (hx : a.eval x = .slice (some ad) m c) (ht : P.underlying t = some (.slice e))
    (hi : (P.info? e).map (fun i => (i.zero, i.size, i.bytes)) = some (some z, sz, by_)) (hzs : z.cells.size = sz) (hsz : 0 < sz)
    (hown : w.ownsRow B e sz v n xs) (hrd : Rd w sz (.slice (some ad) m c) m ys) (h1 : ∀ u ∈ ys, u.oneCell' = true) (hm : 0 < m) (h63 : n + m ≤ 9223372036854775807) (hbytes : (n + m) * by_ ≤ 140737488355328)
    {w0 : World} (hb : Below B w0 w) (hB : B ≤ w0.heap.size)
    (h : ∀ v' w', w'.ownsRow B e sz v' (n + m) (xs ++ ys) → Below B w0 w' → w.grownBy w' v.ownBlock → (∀ g, v'.ownBlock = some g → v.ownBlock = some g ∨ w.heap.size ≤ g) → wpList P ops Q rest (a.put o.dst v') w') : wpList P ops Q (o :: rest) a w := by
  obtain ⟨i, hi1, hi2, hi3, hi4⟩ := info3 hi
  have hcell : ∀ j u, ys[j]? = some u → w.cell? (ad.add j) = some u := by
    obtain ⟨A, c', e1, s1, s2, s3, s4, s5⟩ := hrd
    injection e1 with e1 _ _
    intro j u hu
    obtain ⟨p1, p2, p3⟩ := s5 hm ad e1.symm
    obtain ⟨b, q, sp⟩ := ad
    simp at p1; subst p1
    rw [show ((⟨b, q, none⟩ : Addr).add j) = ⟨b, q + j, none⟩ by unfold Addr.add; split <;> simp_all]
    exact p3 j u hu
  have hyl : ys.length = m * sz := by obtain ⟨A, c', e1, s1, s2, s3, _⟩ := hrd; exact s3
  obtain ⟨v', w', hrun, r1, r2, r3⟩ := run_append_own2 (P := P) (w := w) B t o.type e i z sz by_ ht hi1 hi2 hi3 hi4 hzs hsz v n xs hown ad m c ys hyl hcell h1 (by unfold maxLen; omega) hbytes (Nat.le_trans hB hb.size)
  refine wpList_wanted hgd fun K hK => ?_
  unfold Oper.wp
  simp [execOp, ho, resolve, invoke, builtin, hs, hx, hrun, Result.andThen]
  exact hK _ _ (h v' w' r1 (hb.grown r2 (Nat.le_trans hB hb.size) fun k hk => (hown.lt k hk).1) r2 r3)
end
end Go.Proofs.Ytbfmdbeeiicabaa
namespace Go.Proofs.Ytbfmdbeeiicabaa
open Go.RowKit L01 L02 L05 L07 L13 L14 L15 L18 L19
theorem OwnT.apart {w : World} {B p i : Nat} {v u : Value} {L : List (List UInt8)} (h : OwnT w B v L) (hp : p < B) : OwnT (w.setCell ⟨p, i, none⟩ u) B v L := by
  obtain ⟨vs, a1, a2, a4⟩ := h
  exact ⟨vs, a1, own_apart a2 hp, fun i x l h5 h6 => own_apart (a4 i x l h5 h6) hp⟩
theorem OwnT.mid {w w' : World} {lo : Nat} {v : Value} {L : List (List UInt8)} (h : OwnT w lo v L) (hm : Mid lo w.heap.size w w') : OwnT w' lo v L := by
  obtain ⟨vs, a1, a2, a4⟩ := h
  exact ⟨vs, a1, own_mid a2 hm, fun i x l h5 h6 => own_mid (a4 i x l h5 h6) hm⟩
theorem OwnT.up {w : World} {base base' : Nat} {v : Value} {L : List (List UInt8)} (h : OwnT w base v L) (hb : base' ≤ base) : OwnT w base' v L := by
  obtain ⟨vs, h1, h2, h4⟩ := h; exact ⟨vs, h1, own_mono h2 hb, fun i x l h5 h6 => own_mono (h4 i x l h5 h6) hb⟩
theorem OwnT.form {w : World} {B : Nat} {v : Value} {L : List (List UInt8)} (h : OwnT w B v L) : ∃ A n c, v = .slice A n c := by
  obtain ⟨_, _, h2, _⟩ := h
  obtain ⟨A, c, e, _⟩ := Rd.of_own h2; exact ⟨A, _, c, e⟩
theorem row_form {w : World} {B e sz n : Nat} {v : Value} {xs : List Value} (h : w.ownsRow B e sz v n xs) : ∃ A n c, v = .slice A n c := by
  obtain ⟨A, c, e, _⟩ := Rd.of_own h; exact ⟨A, _, c, e⟩
/-- the blocks that the walk of parts has made stay -/
structure MidS (lo : Nat) (ws w : World) : Prop where
  m : Mid lo ws.heap.size ws w
  z : ws.heap.size ≤ w.heap.size
theorem MidS.below {lo : Nat} {ws w w' : World} (h : MidS lo ws w) (hb : Below w.heap.size w w') : MidS lo ws w' := ⟨h.m.below h.z hb, Nat.le_trans h.z hb.size⟩
theorem MidS.grown {lo : Nat} {ws w w' : World} {row : Option Nat} (h : MidS lo ws w) (hg : w.grownBy w' row) (hr : ∀ k, row = some k → k < lo ∨ ws.heap.size ≤ k) : MidS lo ws w' := ⟨h.m.grown h.z hg hr, Nat.le_trans h.z hg.size⟩
theorem MidS.set {lo : Nat} {ws w : World} (h : MidS lo ws w) {p : Addr} (hp : p.block < lo) (u : Value) : MidS lo ws (w.setCell p u) := ⟨h.m.set (.inl hp) u, by simpa [World.setCell] using h.z⟩
/-- what is known while parts fills its result -/
structure SgO (W : World) (base lo : Nat) (v tv sv bv : Value) (E pm nm : Nat) (l : List UInt64) (T : List (List UInt8)) (S : List Sl) (O : List Hb) (w0 : World) : Prop where
  b : Below w0.heap.size w0 W
  t : OwnT W lo tv T
  s : W.ownsRow lo E 3 sv S.length (tabL S)
  k : OwnK W base bv O
  kn : bv.ownBlock ≠ some w0.heap.size
  m : MapL Try.prog 3 4 (.bool false) W pm nm (fun a => .bool (decide (IsObj O a)))
theorem SgO.set {W w0 : World} {base lo E pm nm i : Nat} {v tv sv bv u : Value} {l : List UInt64} {T : List (List UInt8)} {S : List Sl} {O : List Hb} (h : SgO W base lo v tv sv bv E pm nm l T S O w0) (hp : w0.heap.size < lo) (hm : w0.heap.size ≠ pm) : SgO (W.setCell ⟨w0.heap.size, i, none⟩ u) base lo v tv sv bv E pm nm l T S O w0 :=
  ⟨h.b.setCell (p := ⟨w0.heap.size, i, none⟩) (Nat.le_refl _) _, h.t.apart hp, own_apart h.s hp, World.ownsRow.kept h.k (grown_set _ ⟨w0.heap.size, i, none⟩ u) (.inr h.kn), h.kn, h.m.kept (grown_set _ ⟨w0.heap.size, i, none⟩ u) (by intro e; injection e with e; exact hm e.symm)⟩
theorem SgO.sg {W w0 : World} {base lo E pm nm : Nat} {v tv sv bv : Value} {l : List UInt64} {T : List (List UInt8)} {S : List Sl} {O : List Hb} (h : SgO W base lo v tv sv bv E pm nm l T S O w0) (hw : Words w0 v l) : Sg W v tv sv bv pm nm l T S O :=
  ⟨hw.below h.b, h.t.rd, Rd.of_own h.s, h.k.rd, h.m⟩
theorem objs_snoc {L : List Hb} {b : Hb} : objs (L ++ [b]) = objs L ++ (if b.kind = 1 then [b] else []) := by
  unfold objs
  rw [List.filter_append]
  by_cases h : b.kind = 1 <;> simp [h]
theorem isObj_snoc {L : List Hb} {b : Hb} {a : Int} : IsObj (L ++ [b]) a ↔ a = b.at_ ∨ IsObj L a := by
  constructor
  · rintro ⟨c, hc, e⟩
    rcases List.mem_append.1 hc with hc | hc
    · exact .inr ⟨c, hc, e⟩
    · rw [List.mem_singleton] at hc; subst hc; exact .inl e.symm
  · rintro (e | ⟨c, hc, e⟩)
    · exact ⟨b, by simp, e.symm⟩
    · exact ⟨c, List.mem_append_left _ hc, e⟩
set_option maxRecDepth 100000 in
set_option maxHeartbeats 8000000 in
theorem parts_any (v : Value) (l : List UInt64) (hs : SizeOk l.length) (r : Nat) (hr : r = why6 l) (w : World) (h : Words w v l) :
    Calls Try.prog 62 #[v] w fun e w' => ∃ a b c d m, e = .returned (.tuple #[.agg #[a, b, c, d, m], .int .i64 r]) ∧ (r = 0 → a = v ∧ ∃ g n, m = .map (some g) ∧ Sg w' v b c d g n l (T19 l) (slots l) (O19 l)) ∧ (r ≠ 0 → a = .slice none 0 0 ∧ b = .slice none 0 0 ∧ c = .slice none 0 0 ∧ d = .slice none 0 0 ∧ m = .map none) ∧ Below w.heap.size w w' := by
  have B : Below w.heap.size w w := Below.refl _ _
  obtain ⟨vA, vn, vc, rfl⟩ : ∃ A n c, v = .slice A n c := by obtain ⟨A, c, e, _⟩ := h; exact ⟨A, _, c, e⟩
  have H := Lib.hid h
  have hmm := @run_makeMap Try.prog
  obtain ⟨hn1, hn2, hn3⟩ := hs
  obtain ⟨sw, hsw⟩ : ∃ x, x = sW l := ⟨_, rfl⟩
  obtain ⟨st, hst⟩ : ∃ x, x = sT l := ⟨_, rfl⟩
  obtain ⟨i0, hi0⟩ : ∃ x, x = is0 l := ⟨_, rfl⟩
  obtain ⟨i1, hi1⟩ : ∃ x, x = is1 l := ⟨_, rfl⟩
  obtain ⟨r1, hr1⟩ : ∃ x, x = rErr l := ⟨_, rfl⟩
  have TT := Lib.hid (fun w h => TRead_any (.slice vA vn vc) l sw st i0 i1 r1 hsw hst hi0 hi1 hr1 w h)
  obtain ⟨z1, hz1⟩ : ∃ x, x = decide (Zr l 16) := ⟨_, rfl⟩
  obtain ⟨z2, hz2⟩ : ∃ x, x = decide (Zr l 24) := ⟨_, rfl⟩
  have Z1 : Hid (∀ w, Words w (.slice vA vn vc) l → Calls Try.prog 101 #[(.slice vA vn vc), .int .i64 16] w fun e w' => e = .returned (.bool z1) ∧ w = w') := Lib.hid (fun w h => zero19_any (.slice vA vn vc) l 16 z1 hz1 (by omega) (by omega) w h)
  have Z2 : Hid (∀ w, Words w (.slice vA vn vc) l → Calls Try.prog 101 #[(.slice vA vn vc), .int .i64 24] w fun e w' => e = .returned (.bool z2) ∧ w = w') := Lib.hid (fun w h => zero19_any (.slice vA vn vc) l 24 z2 hz2 (by omega) (by omega) w h)
  obtain ⟨T, hT⟩ : ∃ T, T = T19 l := ⟨_, rfl⟩
  obtain ⟨r4, hr4⟩ : ∃ x, x = tabErr l (sT l) := ⟨_, rfl⟩
  have KT := Lib.hid (fun w h => KTable_any (.slice vA vn vc) l st T r4 (by rw [hT, hst]; rfl) (by rw [hr4, hst]) w h)
  obtain ⟨S, hS⟩ : ∃ S, S = all l := ⟨_, rfl⟩
  obtain ⟨r5, hr5⟩ : ∃ x, x = openErr l := ⟨_, rfl⟩
  have AT := Lib.hid (fun w h => All18_any (.slice vA vn vc) l S r5 hS hr5 w h)
  obtain ⟨L, hL⟩ : ∃ L, L = allL l := ⟨_, rfl⟩
  obtain ⟨r6, hr6⟩ : ∃ x, x = allErr l := ⟨_, rfl⟩
  have WT := Lib.hid (fun w h => AllW_any (.slice vA vn vc) l L r6 hL hr6 w h)
  have HR : Hid (r = if r1 ≠ 0 then 1 else if z1 = false then 2 else if z2 = false then 3 else if r4 ≠ 0 then 4 else if r5 ≠ 0 then 5 else if r6 ≠ 0 then 6 else 0) := Lib.hid (by
    rw [hr, why6, hr1, hr4, hr5, hr6]
    by_cases c1 : Zr l 16 <;> by_cases c2 : Zr l 24 <;> simp [hz1, hz2, c1, c2])
  have HF := Lib.hid (And.intro hT (And.intro hL (show (r5 = 0) → S = slots l from fun e => by rw [hS, all, ← hr5, if_pos e])))
  have HNN := Lib.hid (show r6 = 0 → ∀ b ∈ L, i64Ok b.at_ from fun e b hb => by
    rw [hL] at hb
    obtain ⟨a, h1, h2, _, h4, _⟩ := all_mem (hr6 ▸ e) hb
    rw [h4, stand_at]
    exact ⟨by omega, by omega⟩)
  have HLN := Lib.hid (show r6 = 0 → L.length ≤ 960 from fun e => by rw [hL]; exact all_len (hr6 ▸ e))
  clear hr hsw hst hi0 hi1 hr1 hz1 hz2 hT hr4 hS hr5 hL hr6 h hn1 hn2 hn3
  go_enter Try.func62, Try.ntmps62
  go_upto_region 1 with (fail)
  refine wp_gen (fun Wv => Bx Wv (w.heap.size) (111) (#[.slice none 0 0, .slice none 0 0, .slice none 0 0, .slice none 0 0, .map none]) ∧ Below w.heap.size w Wv) ⟨((Bx.at_ (by simp))), ((Below.refl _ w).alloc (by simp <;> omega) _)⟩ ?_
  rintro wa1 ⟨g1, b⟩
  replace B := B.trans (b.mono B.size); clear b
  have c_g1 := g1.cell; have f_g1 := g1.free; have a_g1 := fun o => (g1.alloc o).cell; have d_g1 := fun o o2 => ((g1.alloc o).alloc o2).cell; have e_g1 := fun o => (g1.alloc o).free
  go_wp2_with fail
  refine (TT.out _ (H.out.below B)).mono ?_
  rintro e wa2 ⟨rfl, b⟩
  try clear c_g1 f_g1 a_g1 d_g1 e_g1
  replace g1 := g1.below b; have c_g1 := g1.cell; have f_g1 := g1.free; have a_g1 := fun o => (g1.alloc o).cell; have d_g1 := fun o o2 => ((g1.alloc o).alloc o2).cell; have e_g1 := fun o => (g1.alloc o).free; replace B := B.trans (b.mono B.size); clear b
  go_upto_region 2 with (fail)
  refine wp_gen (fun Wv => Bx Wv (wa2.heap.size) (60) (#[.int .i64 sw, .int .i64 st]) ∧ Bx Wv (wa2.heap.size + 1) (61) (#[.bool i0, .bool i1]) ∧ Below wa2.heap.size wa2 Wv) ⟨(((Bx.at_ (by simp)).alloc _)), ((Bx.at_ (by simp))), (((Below.refl _ wa2).alloc (by simp <;> omega) _).alloc (by simp <;> omega) _)⟩ ?_
  rintro wa3 ⟨g2, g3, b⟩
  try clear c_g1 f_g1 a_g1 d_g1 e_g1
  replace g1 := g1.below b; have c_g1 := g1.cell; have f_g1 := g1.free; have a_g1 := fun o => (g1.alloc o).cell; have d_g1 := fun o o2 => ((g1.alloc o).alloc o2).cell; have e_g1 := fun o => (g1.alloc o).free; replace B := B.trans (b.mono B.size); clear b
  have c_g2 := g2.cell; have f_g2 := g2.free; have a_g2 := fun o => (g2.alloc o).cell; have d_g2 := fun o o2 => ((g2.alloc o).alloc o2).cell; have e_g2 := fun o => (g2.alloc o).free
  have c_g3 := g3.cell; have f_g3 := g3.free; have a_g3 := fun o => (g3.alloc o).cell; have d_g3 := fun o o2 => ((g3.alloc o).alloc o2).cell; have e_g3 := fun o => (g3.alloc o).free
  by_cases h1 : r1 = 0
  case neg =>
    have n1 : (r1 != 0) = true := by rw [bne_iff_ne]; exact h1
    have hr0 : r = 1 := by rw [HR.out, if_pos h1]
    subst hr0
    go_wp2
    refine bodyPost_ret (v := .tuple #[.agg #[.slice none 0 0, .slice none 0 0, .slice none 0 0, .slice none 0 0, .map none], .int .i64 1]) (by simp [results, Try.results62, go_sem, c_g1, f_g1, a_g1, e_g1, c_g2, f_g2, a_g2, e_g2, c_g3, f_g3, a_g3, e_g3]) rfl ?_
    refine ⟨_, _, _, _, _, rfl, fun e => by omega, fun _ => ⟨rfl, rfl, rfl, rfl, rfl⟩, ?_⟩
    (repeat (first | refine Below.setCell ?_ (by first | exact Nat.le_refl _ | (simp <;> omega)) _ | refine Below.alloc ?_ (by first | exact B.size | (have := B.size; simp <;> omega)) _)); exact B
  case pos =>
    subst h1
    go_upto_region 4 with (fail)
    go_wp2_with fail
    refine (Z1.out _ (H.out.below B)).mono ?_
    rintro e w' ⟨rfl, rfl⟩
    cases z1
    · have hr0 : r = 2 := by rw [HR.out]; simp
      subst hr0
      go_wp2
      refine bodyPost_ret (v := .tuple #[.agg #[.slice none 0 0, .slice none 0 0, .slice none 0 0, .slice none 0 0, .map none], .int .i64 2]) (by simp [results, Try.results62, go_sem, c_g1, f_g1, a_g1, e_g1, c_g2, f_g2, a_g2, e_g2, c_g3, f_g3, a_g3, e_g3]) rfl ?_
      refine ⟨_, _, _, _, _, rfl, fun e => by omega, fun _ => ⟨rfl, rfl, rfl, rfl, rfl⟩, ?_⟩
      (repeat (first | refine Below.setCell ?_ (by first | exact Nat.le_refl _ | (simp <;> omega)) _ | refine Below.alloc ?_ (by first | exact B.size | (have := B.size; simp <;> omega)) _)); exact B
    · go_wp2_with fail
      refine (Z2.out _ (H.out.below B)).mono ?_
      rintro e w' ⟨rfl, rfl⟩
      cases z2
      · have hr0 : r = 3 := by rw [HR.out]; simp
        subst hr0
        go_wp2
        refine bodyPost_ret (v := .tuple #[.agg #[.slice none 0 0, .slice none 0 0, .slice none 0 0, .slice none 0 0, .map none], .int .i64 3]) (by simp [results, Try.results62, go_sem, c_g1, f_g1, a_g1, e_g1, c_g2, f_g2, a_g2, e_g2, c_g3, f_g3, a_g3, e_g3]) rfl ?_
        refine ⟨_, _, _, _, _, rfl, fun e => by omega, fun _ => ⟨rfl, rfl, rfl, rfl, rfl⟩, ?_⟩
        (repeat (first | refine Below.setCell ?_ (by first | exact Nat.le_refl _ | (simp <;> omega)) _ | refine Below.alloc ?_ (by first | exact B.size | (have := B.size; simp <;> omega)) _)); exact B
      · have hz3 := B.size
        have hp1 := g1.lt; have hp2 := g2.lt
        go_upto_region 9 with (fail)
        refine wp_gen (fun V => Bx V w.heap.size 111 #[.slice none 0 0, .slice none 0 0, .slice none 0 0, .slice none 0 0, .map none] ∧ Bx V wa2.heap.size 60 #[.int .i64 sw, .int .i64 st] ∧ Bx V (wa3.heap.size + 1) 111 #[(.slice vA vn vc), .slice none 0 0, .slice none 0 0, .slice none 0 0, .map (some wa3.heap.size)] ∧ MapL Try.prog 3 4 (.bool false) V wa3.heap.size 0 (fun _ => .bool false) ∧ Below w.heap.size w V)
          ⟨(g1.alloc _).alloc _, (g2.alloc _).alloc _, Bx.at_ (by simp), (MapL.made wa3).below ((Below.refl _ _).alloc (Nat.le_refl _) _), (B.alloc hz3 _).alloc (by simp; omega) _⟩ ?_
        clear B g1 g2 g3 c_g1 f_g1 a_g1 d_g1 e_g1 c_g2 f_g2 a_g2 d_g2 e_g2 c_g3 f_g3 a_g3 d_g3 e_g3
        rintro wb ⟨g1, g2, g4, mp, B⟩
        have hlb : w.heap.size < wa3.heap.size ∧ wa2.heap.size < wa3.heap.size + 1 ∧ wa3.heap.size + 1 < wb.heap.size := ⟨hp1, by have := hp2; omega, g4.lt⟩
        obtain ⟨hq1, hq2, hq3⟩ := hlb
        generalize wa3.heap.size = pm at *
        generalize wa2.heap.size = ps at *
        have c_g1 := g1.cell; have c_g2 := g2.cell; have c_g4 := g4.cell
        have B1 : Below wb.heap.size wb wb := Below.refl _ _
        obtain ⟨lo, hlo⟩ : ∃ lo, lo = wb.heap.size := ⟨_, rfl⟩
        go_wp2_with fail
        refine (KT.out _ (H.out.below B)).mono ?_
        rintro e wa4 ⟨xt, rfl, ot, b⟩
        try clear c_g1 f_g1 a_g1 d_g1 e_g1
        replace g1 := g1.below b; have c_g1 := g1.cell; have f_g1 := g1.free; have a_g1 := fun o => (g1.alloc o).cell; have d_g1 := fun o o2 => ((g1.alloc o).alloc o2).cell; have e_g1 := fun o => (g1.alloc o).free; try clear c_g2 f_g2 a_g2 d_g2 e_g2
        replace g2 := g2.below b; have c_g2 := g2.cell; have f_g2 := g2.free; have a_g2 := fun o => (g2.alloc o).cell; have d_g2 := fun o o2 => ((g2.alloc o).alloc o2).cell; have e_g2 := fun o => (g2.alloc o).free; try clear c_g4 f_g4 a_g4 d_g4 e_g4
        replace g4 := g4.below b; have c_g4 := g4.cell; have f_g4 := g4.free; have a_g4 := fun o => (g4.alloc o).cell; have d_g4 := fun o o2 => ((g4.alloc o).alloc o2).cell; have e_g4 := fun o => (g4.alloc o).free; replace mp := mp.below b; replace B1 := B1.trans (b.mono B1.size); replace B := B.trans (b.mono B.size); clear b
        obtain ⟨tA, tn, tc, rfl⟩ := ot.form
        go_upto_region 10 with (fail)
        have hB1 := B1.size
        rw [← hlo] at ot hq3 hB1
        refine wp_gen (fun V => Bx V w.heap.size 111 #[.slice none 0 0, .slice none 0 0, .slice none 0 0, .slice none 0 0, .map none] ∧ Bx V (pm + 1) 111 #[.slice vA vn vc, .slice tA tn tc, .slice none 0 0, .slice none 0 0, .map (some pm)] ∧ MapL Try.prog 3 4 (.bool false) V pm 0 (fun _ => .bool false) ∧ OwnT V lo (.slice tA tn tc) T ∧ Below w.heap.size w V ∧ lo ≤ V.heap.size)
          ⟨g1.far (p := ⟨pm + 1, 1, none⟩) (by show _ ≠ pm + 1; omega) _, g4.set (i := 1) _, mp.kept (grown_set _ ⟨pm + 1, 1, none⟩ _) (by intro e; injection e with e; have : pm = pm + 1 := e; omega), ot.apart hq3, B.setCell (p := ⟨pm + 1, 1, none⟩) (by show w.heap.size ≤ pm + 1; omega) _, by simpa [World.setCell] using hB1⟩ ?_
        clear B B1 g1 g2 g4 mp ot c_g1 f_g1 a_g1 d_g1 e_g1 c_g2 f_g2 a_g2 d_g2 e_g2 c_g4 f_g4 a_g4 d_g4 e_g4 hB1
        rintro wc ⟨g1, g4, mp, ot, B, hlc⟩
        have c_g1 := g1.cell; have c_g4 := g4.cell; have f_g1 := g1.free
        by_cases h4 : r4 = 0
        case neg =>
          have n1 : (r4 != 0) = true := by rw [bne_iff_ne]; exact h4
          have hr0 : r = 4 := by rw [HR.out]; simp [h4]
          subst hr0
          go_wp2
          refine bodyPost_ret (v := .tuple #[.agg #[.slice none 0 0, .slice none 0 0, .slice none 0 0, .slice none 0 0, .map none], .int .i64 4]) (by simp [results, Try.results62, go_sem, c_g1, f_g1]) rfl ?_
          refine ⟨_, _, _, _, _, rfl, fun e => by omega, fun _ => ⟨rfl, rfl, rfl, rfl, rfl⟩, ?_⟩
          (repeat (first | refine Below.setCell ?_ (by first | exact Nat.le_refl _ | (simp <;> omega)) _ | refine Below.alloc ?_ (by first | exact B.size | (have := B.size; simp <;> omega)) _)); exact B
        case pos =>
          subst h4
          go_upto_region 12 with (fail)
          have B1 : Below wc.heap.size wc wc := Below.refl _ _
          go_wp2_with fail
          refine (AT.out _ (H.out.below B)).mono ?_
          rintro e wa5 ⟨xs, E, rfl, os, b⟩
          try clear c_g1 f_g1 a_g1 d_g1 e_g1
          replace g1 := g1.below b; have c_g1 := g1.cell; have f_g1 := g1.free; have a_g1 := fun o => (g1.alloc o).cell; have d_g1 := fun o o2 => ((g1.alloc o).alloc o2).cell; have e_g1 := fun o => (g1.alloc o).free; try clear c_g4 f_g4 a_g4 d_g4 e_g4
          replace g4 := g4.below b; have c_g4 := g4.cell; have f_g4 := g4.free; have a_g4 := fun o => (g4.alloc o).cell; have d_g4 := fun o o2 => ((g4.alloc o).alloc o2).cell; have e_g4 := fun o => (g4.alloc o).free; replace mp := mp.below b; replace ot := ot.below b; replace B1 := B1.trans (b.mono B1.size); replace B := B.trans (b.mono B.size); clear b
          obtain ⟨sA, sn, sc, rfl⟩ := row_form os
          go_upto_region 13 with (fail)
          have hB1 := B1.size
          have os' := own_mono os hlc
          refine wp_gen (fun V => Bx V w.heap.size 111 #[.slice none 0 0, .slice none 0 0, .slice none 0 0, .slice none 0 0, .map none] ∧ Bx V (pm + 1) 111 #[.slice vA vn vc, .slice tA tn tc, .slice sA sn sc, .slice none 0 0, .map (some pm)] ∧ MapL Try.prog 3 4 (.bool false) V pm 0 (fun _ => .bool false) ∧ OwnT V lo (.slice tA tn tc) T ∧ OwnS V lo E (.slice sA sn sc) S ∧ Below w.heap.size w V ∧ lo ≤ V.heap.size)
            ⟨g1.far (p := ⟨pm + 1, 2, none⟩) (by show _ ≠ pm + 1; omega) _, g4.set (i := 2) _, mp.kept (grown_set _ ⟨pm + 1, 2, none⟩ _) (by intro e; injection e with e; have : pm = pm + 1 := e; omega), ot.apart hq3, own_apart os' hq3, B.setCell (p := ⟨pm + 1, 2, none⟩) (by show w.heap.size ≤ pm + 1; omega) _, by have : wc.heap.size ≤ _ := hB1; simp only [World.setCell, Array.size_modify]; omega⟩ ?_
          clear B B1 g1 g4 mp ot os os' c_g1 f_g1 a_g1 d_g1 e_g1 c_g4 f_g4 a_g4 d_g4 e_g4 hB1
          rintro wd ⟨g1, g4, mp, ot, os, B, hld⟩
          have c_g1 := g1.cell; have c_g4 := g4.cell; have f_g1 := g1.free
          by_cases h5 : r5 = 0
          case neg =>
            have n1 : (r5 != 0) = true := by rw [bne_iff_ne]; exact h5
            have hr0 : r = 5 := by rw [HR.out]; simp [h5]
            subst hr0
            go_wp2
            refine bodyPost_ret (v := .tuple #[.agg #[.slice none 0 0, .slice none 0 0, .slice none 0 0, .slice none 0 0, .map none], .int .i64 5]) (by simp [results, Try.results62, go_sem, c_g1, f_g1]) rfl ?_
            refine ⟨_, _, _, _, _, rfl, fun e => by omega, fun _ => ⟨rfl, rfl, rfl, rfl, rfl⟩, ?_⟩
            (repeat (first | refine Below.setCell ?_ (by first | exact Nat.le_refl _ | (simp <;> omega)) _ | refine Below.alloc ?_ (by first | exact B.size | (have := B.size; simp <;> omega)) _)); exact B
          case pos =>
            subst h5
            go_upto_region 15 with (fail)
            go_wp2_with fail
            refine (WT.out _ (H.out.below B)).mono ?_
            rintro e wa6 ⟨xl, rfl, ol, b⟩
            try clear c_g1 f_g1 a_g1 d_g1 e_g1
            replace g1 := g1.below b; have c_g1 := g1.cell; have f_g1 := g1.free; have a_g1 := fun o => (g1.alloc o).cell; have d_g1 := fun o o2 => ((g1.alloc o).alloc o2).cell; have e_g1 := fun o => (g1.alloc o).free; try clear c_g4 f_g4 a_g4 d_g4 e_g4
            replace g4 := g4.below b; have c_g4 := g4.cell; have f_g4 := g4.free; have a_g4 := fun o => (g4.alloc o).cell; have d_g4 := fun o o2 => ((g4.alloc o).alloc o2).cell; have e_g4 := fun o => (g4.alloc o).free; replace mp := mp.below b; replace ot := ot.below b; replace os := os.below b; replace B := B.trans (b.mono B.size); clear b
            obtain ⟨lA, ln, lc, rfl⟩ := row_form ol
            by_cases h6 : r6 = 0
            case neg =>
              have n1 : (r6 != 0) = true := by rw [bne_iff_ne]; exact h6
              have hr0 : r = 6 := by rw [HR.out]; simp [h6]
              subst hr0
              go_wp2
              refine bodyPost_ret (v := .tuple #[.agg #[.slice none 0 0, .slice none 0 0, .slice none 0 0, .slice none 0 0, .map none], .int .i64 6]) (by simp [results, Try.results62, go_sem, c_g1, f_g1, a_g1, e_g1, c_g4, f_g4, a_g4, e_g4]) rfl ?_
              refine ⟨_, _, _, _, _, rfl, fun e => by omega, fun _ => ⟨rfl, rfl, rfl, rfl, rfl⟩, ?_⟩
              (repeat (first | refine Below.setCell ?_ (by first | exact Nat.le_refl _ | (simp <;> omega)) _ | refine Below.alloc ?_ (by first | exact B.size | (have := B.size; simp <;> omega)) _)); exact B
            case pos =>
              subst h6
              have hr0 : r = 0 := by rw [HR.out]; simp
              subst hr0
              obtain ⟨hTe, hLe, hSe⟩ := HF.out
              have hSe := hSe (by trivial)
              have HIA := Lib.hid (HNN.out (by trivial))
              have hN960 := HLN.out (by trivial)
              obtain ⟨N, hN⟩ : ∃ N, N = L.length := ⟨_, rfl⟩
              have HNL := Lib.hid hN
              have lx := ol.rd.len
              rw [← hN] at lx hN960
              have ol' := own_mono ol hld
              have HXT := Lib.hid (And.intro hTe (And.intro hLe hSe))
              clear hN hTe hLe hSe ol
              go_upto_region 18 with (fail)
              refine wp_gen (fun V => Bx V w.heap.size 111 #[.slice none 0 0, .slice none 0 0, .slice none 0 0, .slice none 0 0, .map none] ∧ Bx V (pm + 1) 111 #[.slice vA vn vc, .slice tA tn tc, .slice sA sn sc, .slice none 0 0, .map (some pm)] ∧ MapL Try.prog 3 4 (.bool false) V pm 0 (fun _ => .bool false) ∧ OwnT V lo (.slice tA tn tc) T ∧ OwnS V lo E (.slice sA sn sc) S ∧ OwnK V lo (.slice lA ln lc) L ∧ Below w.heap.size w V)
                ⟨g1, g4, mp, ot, os, ol', B⟩ ?_
              clear B g1 g4 mp ot os ol' c_g1 f_g1 a_g1 d_g1 e_g1 c_g4 f_g4 a_g4 d_g4 e_g4
              rintro ws ⟨g1, g4, mp, ot, os, ol, B⟩
              have HSTART := Lib.hid (And.intro g1 (And.intro g4 (And.intro mp B)))
              have HOWN := Lib.hid (And.intro ot (And.intro os ol))
              have hps : pm + 1 < ws.heap.size := g4.lt
              have hpl : w.heap.size ≤ pm := by omega
              clear g1 g4 mp ot os ol B
              go_wp2
              go_loopg [61] N (fun gg i wr => ∃ j : Nat, j ≤ N ∧ gg = N - j ∧ i = .int .i64 j ∧ Hid (∃ bj nm, Bx wr w.heap.size 111 #[.slice none 0 0, .slice none 0 0, .slice none 0 0, .slice none 0 0, .map none] ∧ Bx wr (pm + 1) 111 #[.slice vA vn vc, .slice tA tn tc, .slice sA sn sc, bj, .map (some pm)] ∧
                MapL Try.prog 3 4 (.bool false) wr pm nm (fun a => .bool (decide (IsObj (objs (L.take j)) a))) ∧ nm ≤ j ∧ OwnK wr w.heap.size bj (objs (L.take j)) ∧ (∀ g, bj.ownBlock = some g → ws.heap.size ≤ g) ∧ MidS lo ws wr ∧ Below w.heap.size w wr))
              case atStart =>
                obtain ⟨g1, g4, mp, B⟩ := HSTART.out
                exact ⟨0, by omega, by omega, rfl, Lib.hid ⟨_, 0, g1, g4, by simpa [objs, IsObj] using mp, by omega, OwnK.nil _ _, fun g hg => (by cases hg), ⟨Mid.refl _ _ _, Nat.le_refl _⟩, B⟩⟩
              case round =>
                obtain ⟨j, hj, rfl, rfl, hh⟩ := hrel
                clear HSTART
                obtain ⟨bj, nm, g1, g4, mp, hnm, oj, hbj, hmid, B⟩ := hh.out
                clear hh
                obtain ⟨jA, jn, jc, rfl⟩ := row_form oj
                have hol : OwnK wr lo (.slice lA ln lc) L := own_mid HOWN.out.2.2 hmid.m
                by_cases hlt : j < N
                · obtain ⟨bb, oo, b, ia, m0, m1, m2, m3, m4, m5, hb, _⟩ := hol.rd.at_ (k := j) (by rw [← HNL.out]; exact hlt)
                  have htk : L.take (j + 1) = L.take j ++ [b] := by rw [List.take_add_one, hb.out]; rfl
                  have hia := HIA.out b (List.mem_of_getElem? hb.out)
                  have HTK := Lib.hid htk
                  have hbj' := Lib.hid hbj
                  have hzz := hmid.z
                  clear htk hbj
                  by_cases hk1 : b.kind = 1
                  · have HK1 := Lib.hid hk1
                    clear hk1
                    have hne4 : (Value.slice jA jn jc).ownBlock = none ∨ (Value.slice jA jn jc).ownBlock ≠ some (pm + 1) := by
                      cases hv : (Value.slice jA jn jc).ownBlock with
                      | none => exact .inl rfl
                      | some g => exact .inr (fun e => by injection e with e; have := hbj'.out g hv; omega)
                    have hnep : (Value.slice jA jn jc).ownBlock = none ∨ (Value.slice jA jn jc).ownBlock ≠ some w.heap.size := by
                      cases hv : (Value.slice jA jn jc).ownBlock with
                      | none => exact .inl rfl
                      | some g => exact .inr (fun e => by injection e with e; have := hbj'.out g hv; omega)
                    have hne5 := own_fresh oj
                    have hlj : (objs (L.take j)).length ≤ 960 := Nat.le_trans (List.length_filter_le _ _) (by rw [List.length_take]; omega)
                    have hB0 := B.size
                    go_upto_region 21 with (fail)
                    refine wp_gen (fun Wv => Bx Wv (wr.heap.size) (38) (#[.int .i64 b.at_, .int .i64 b.size, .int .i64 b.kind, .int .i64 b.ty, .bool b.mark, .int .u64 b.next.toNat]) ∧ Below wr.heap.size wr Wv) ⟨((Bx.at_ (by simp))), ((Below.refl _ wr).alloc (by simp <;> omega) _)⟩ ?_
                    rintro wa7 ⟨g5, b⟩
                    try clear c_g1 f_g1 a_g1 d_g1 e_g1
                    replace g1 := g1.below b; have c_g1 := g1.cell; have f_g1 := g1.free; have a_g1 := fun o => (g1.alloc o).cell; have d_g1 := fun o o2 => ((g1.alloc o).alloc o2).cell; have e_g1 := fun o => (g1.alloc o).free; try clear c_g4 f_g4 a_g4 d_g4 e_g4
                    replace g4 := g4.below b; have c_g4 := g4.cell; have f_g4 := g4.free; have a_g4 := fun o => (g4.alloc o).cell; have d_g4 := fun o o2 => ((g4.alloc o).alloc o2).cell; have e_g4 := fun o => (g4.alloc o).free; replace mp := mp.below b; replace oj := oj.below b; replace hmid := hmid.below b; replace B := B.trans (b.mono B.size); clear b
                    have c_g5 := g5.cell; have f_g5 := g5.free; have a_g5 := fun o => (g5.alloc o).cell; have d_g5 := fun o o2 => ((g5.alloc o).alloc o2).cell; have e_g5 := fun o => (g5.alloc o).free
                    have hk1' : (b.kind == 1) = true := by rw [beq_iff_eq]; exact HK1.out
                    clear a_g1 d_g1 e_g1 a_g4 d_g4 e_g4 f_g5 a_g5 d_g5 e_g5
                    go_upto_region 23 with (at_builtin; refine wpList_append2 (by rfl) rfl rfl rfl Try.underlying26 info_block rfl (by omega) (by exact own_below oj ((Below.refl _ _).alloc (Nat.le_refl _) _)) (by exact lit_block b (by simp)) (bkL_one b) (by omega) (by omega) (by omega) (by exact B.alloc B.size _) (Nat.le_refl _) ?_; intro v1 w3 o3 B3 g3 hk3; obtain ⟨yA, yn, yc, rfl⟩ := row_form o3; have c_4 := ((g4.alloc _).grown g3 hne4).cell; have f_4 := ((g4.alloc _).grown g3 hne4).free; have c_5 := ((g5.alloc _).grown g3 hne5).cell; clear c_g4 f_g4 c_g5)
                    obtain ⟨m1', m2', m3'⟩ := (⟨g1, g4, mp⟩ : _ ∧ _ ∧ _)
                    have e1 : Bx w3 w.heap.size 111 #[.slice none 0 0, .slice none 0 0, .slice none 0 0, .slice none 0 0, .map none] := (g1.alloc _).grown g3 hnep
                    have e4 : Bx w3 (pm + 1) 111 #[.slice vA vn vc, .slice tA tn tc, .slice sA sn sc, .slice jA jn jc, .map (some pm)] := (g4.alloc _).grown g3 hne4
                    have e5 : Bx w3 wr.heap.size 38 #[.int .i64 b.at_, .int .i64 b.size, .int .i64 b.kind, .int .i64 b.ty, .bool b.mark, .int .u64 b.next.toNat] := (g5.alloc _).grown g3 hne5
                    have hnem : some pm ≠ (Value.slice jA jn jc).ownBlock := fun e => by have := hbj'.out pm e.symm; omega
                    have em : MapL Try.prog 3 4 (.bool false) w3 pm nm (fun a => .bool (decide (IsObj (objs (L.take j)) a))) := (mp.below ((Below.refl _ _).alloc (Nat.le_refl _) _)).kept g3 hnem
                    have eM : MidS lo ws w3 := (hmid.below ((Below.refl _ _).alloc (Nat.le_refl _) _)).grown g3 (fun k hk => .inr (hbj'.out k hk))
                    have eK : OwnK w3 w.heap.size (.slice yA yn yc) (objs (L.take j) ++ [b]) := OwnK.of o3 (tabB_snoc _ b)
                    have hky : ∀ g, (Value.slice yA yn yc).ownBlock = some g → ws.heap.size ≤ g := fun g hg => by
                      rcases hk3 g hg with h | h
                      · exact hbj'.out g h
                      · have h2 := hmid.z
                        simp only [World.size_alloc] at h
                        omega
                    refine wp_gen (fun V => Bx V w.heap.size 111 #[.slice none 0 0, .slice none 0 0, .slice none 0 0, .slice none 0 0, .map none] ∧ Bx V (pm + 1) 111 #[.slice vA vn vc, .slice tA tn tc, .slice sA sn sc, .slice yA yn yc, .map (some pm)] ∧ Bx V wr.heap.size 38 #[.int .i64 b.at_, .int .i64 b.size, .int .i64 b.kind, .int .i64 b.ty, .bool b.mark, .int .u64 b.next.toNat] ∧
                      MapL Try.prog 3 4 (.bool false) V pm nm (fun a => .bool (decide (IsObj (objs (L.take j)) a))) ∧ OwnK V w.heap.size (.slice yA yn yc) (objs (L.take j) ++ [b]) ∧ MidS lo ws V ∧ Below w.heap.size w V)
                      ⟨e1.far (p := ⟨pm + 1, 3, none⟩) (by show w.heap.size ≠ pm + 1; omega) _, e4.set (i := 3) _, e5.far (p := ⟨pm + 1, 3, none⟩) (by show wr.heap.size ≠ pm + 1; omega) _, em.kept (grown_set _ ⟨pm + 1, 3, none⟩ _) (by intro e; injection e with e; have : pm = pm + 1 := e; omega), own_set eK e4 (by decide), eM.set (p := ⟨pm + 1, 3, none⟩) hq3 _, B3.setCell (p := ⟨pm + 1, 3, none⟩) (by show w.heap.size ≤ pm + 1; omega) _⟩ ?_
                    clear e1 e4 e5 em eM eK g1 g4 g5 mp oj hmid B B3 g3 hk3 o3 c_4 f_4 c_5 m1' m2' m3' m0 m1 m2 m3 m4 m5 hne4 hnep hne5 hnem hk1' c_g1 f_g1 ia
                    rintro V ⟨g1, g4, g5, mp, oj, hmid, B⟩
                    have c_g4 := g4.cell; have c_g5 := g5.cell
                    have hnk : some pm ≠ (Value.slice yA yn yc).ownBlock := fun e => by have := hky pm e.symm; omega
                    have hnk2 : (Value.slice yA yn yc).ownBlock = none ∨ (Value.slice yA yn yc).ownBlock ≠ some pm := .inr (fun e => hnk e.symm)
                    have HKY := Lib.hid hky
                    clear hky
                    go_wp2_with (at_mapUpdate; refine wpList_mapPut rfl rfl Try.underlying3 Try.underlying109 rfl rfl rfl mp (by unfold maxLen; omega) hia (plainElem_bool Try.underlying4 true) ?_; intro w5 mp5 g5')
                    have hob : objs (L.take (j + 1)) = objs (L.take j) ++ [b] := by rw [HTK.out, objs_snoc, if_pos HK1.out]
                    have HREL := Lib.hid (show ∃ bj nm, Bx w5 w.heap.size 111 #[.slice none 0 0, .slice none 0 0, .slice none 0 0, .slice none 0 0, .map none] ∧ Bx w5 (pm + 1) 111 #[.slice vA vn vc, .slice tA tn tc, .slice sA sn sc, bj, .map (some pm)] ∧
                      MapL Try.prog 3 4 (.bool false) w5 pm nm (fun a => .bool (decide (IsObj (objs (L.take (j + 1))) a))) ∧ nm ≤ j + 1 ∧ OwnK w5 w.heap.size bj (objs (L.take (j + 1))) ∧ (∀ g, bj.ownBlock = some g → ws.heap.size ≤ g) ∧ MidS lo ws w5 ∧ Below w.heap.size w w5 from
                      ⟨_, nm + 1, g1.grown g5' (.inr (by intro e; injection e with e; omega)), g4.grown g5' (.inr (by intro e; injection e with e; omega)), by
                        rw [hob]
                        obtain ⟨D, x1, x2⟩ := mp5
                        refine ⟨D, x1, fun a => ?_⟩
                        rw [x2 a]
                        congr 1
                        dsimp only
                        by_cases e : a = b.at_
                        · rw [if_pos e]; congr 1; rw [eq_comm, decide_eq_true_iff]; exact isObj_snoc.2 (.inl e)
                        · rw [if_neg e]; congr 1; rw [Bool.eq_iff_iff, decide_eq_true_iff, decide_eq_true_iff, isObj_snoc]; simp [e], by omega, by rw [hob]; exact World.ownsRow.kept oj g5' hnk2, HKY.out, hmid.grown g5' (fun k hk => .inl (by injection hk with hk; omega)), B.grown g5' B.size (fun k hk => by injection hk with hk; omega)⟩)
                    clear mp5 g5' g1 g4 g5 mp oj hmid B
                    go_roundg (N - (j + 1))
                    case measure => omega
                    case rel => exact ⟨j + 1, by omega, rfl, by go_num, HREL⟩
                  · have hk2 : (b.kind == 1) = false := by rw [beq_eq_false_iff_ne]; exact hk1
                    have hob : objs (L.take (j + 1)) = objs (L.take j) := by rw [HTK.out, objs_snoc, if_neg hk1, List.append_nil]
                    have HOB := Lib.hid hob
                    clear hk1 hob
                    go_upto_region 21 with (fail)
                    refine wp_gen (fun Wv => Bx Wv (wr.heap.size) (38) (#[.int .i64 b.at_, .int .i64 b.size, .int .i64 b.kind, .int .i64 b.ty, .bool b.mark, .int .u64 b.next.toNat]) ∧ Below wr.heap.size wr Wv) ⟨((Bx.at_ (by simp))), ((Below.refl _ wr).alloc (by simp <;> omega) _)⟩ ?_
                    rintro wa8 ⟨g5, b⟩
                    try clear c_g1 f_g1 a_g1 d_g1 e_g1
                    replace g1 := g1.below b; have c_g1 := g1.cell; have f_g1 := g1.free; have a_g1 := fun o => (g1.alloc o).cell; have d_g1 := fun o o2 => ((g1.alloc o).alloc o2).cell; have e_g1 := fun o => (g1.alloc o).free; try clear c_g4 f_g4 a_g4 d_g4 e_g4
                    replace g4 := g4.below b; have c_g4 := g4.cell; have f_g4 := g4.free; have a_g4 := fun o => (g4.alloc o).cell; have d_g4 := fun o o2 => ((g4.alloc o).alloc o2).cell; have e_g4 := fun o => (g4.alloc o).free; replace mp := mp.below b; replace oj := oj.below b; replace hmid := hmid.below b; replace B := B.trans (b.mono B.size); clear b
                    have c_g5 := g5.cell; have f_g5 := g5.free; have a_g5 := fun o => (g5.alloc o).cell; have d_g5 := fun o o2 => ((g5.alloc o).alloc o2).cell; have e_g5 := fun o => (g5.alloc o).free
                    have HREL := Lib.hid (show ∃ bj nm, Bx _ w.heap.size 111 #[.slice none 0 0, .slice none 0 0, .slice none 0 0, .slice none 0 0, .map none] ∧ Bx _ (pm + 1) 111 #[.slice vA vn vc, .slice tA tn tc, .slice sA sn sc, bj, .map (some pm)] ∧
                      MapL Try.prog 3 4 (.bool false) _ pm nm (fun a => .bool (decide (IsObj (objs (L.take (j + 1))) a))) ∧ nm ≤ j + 1 ∧ OwnK _ w.heap.size bj (objs (L.take (j + 1))) ∧ (∀ g, bj.ownBlock = some g → ws.heap.size ≤ g) ∧ MidS lo ws _ ∧ Below w.heap.size w _ from ⟨_, nm, g1, g4, by rw [HOB.out]; exact mp, by omega, by rw [HOB.out]; exact oj, hbj'.out, hmid, B⟩)
                    go_wp2
                    go_roundg (N - (j + 1))
                    case measure => omega
                    case rel => exact ⟨j + 1, by omega, rfl, by go_num, HREL⟩
                · obtain rfl : j = N := by omega
                  have htk : L.take j = L := List.take_of_length_le (by rw [← HNL.out]; exact Nat.le_refl _)
                  rw [htk] at mp oj
                  have c_g1 := g1.cell; have c_g4 := g4.cell; have f_g1 := g1.free
                  have hne1 : w.heap.size ≠ pm + 1 := by omega
                  have HSG : Hid (SgO wr w.heap.size lo (.slice vA vn vc) (.slice tA tn tc) (.slice sA sn sc) (.slice jA jn jc) E pm nm l (T19 l) (slots l) (O19 l) w) := Lib.hid ⟨B, by rw [← HXT.out.1]; exact OwnT.mid HOWN.out.1 hmid.m, by rw [← HXT.out.2.2]; exact own_mid HOWN.out.2.1 hmid.m, by unfold O19; rw [← HXT.out.2.1]; exact oj, fun e => by have := hbj _ e; omega, by unfold O19; rw [← HXT.out.2.1]; exact mp⟩
                  clear mp oj
                  go_wp2
                  refine bodyPost_ret (v := .tuple #[.agg #[.slice vA vn vc, .slice tA tn tc, .slice sA sn sc, .slice jA jn jc, .map (some pm)], .int .i64 0]) (by simp [results, Try.results62, go_sem, c_g1, f_g1, c_g4, hne1]) rfl ?_
                  first | refine ⟨_, _, _, _, _, rfl, ⟨rfl, pm, rfl, nm, SgO.sg (((((HSG.out.set (by omega) (by omega)).set (by omega) (by omega)).set (by omega) (by omega)).set (by omega) (by omega)).set (by omega) (by omega)) H.out⟩, ?_⟩ | refine ⟨_, _, _, _, _, rfl, ⟨rfl, pm, rfl, nm, SgO.sg (((((HSG.out.set (by omega) (by omega)).set (by omega) (by omega)).set (by omega) (by omega)).set (by omega) (by omega)).set (by omega) (by omega)) H.out⟩, fun e => absurd rfl e, ?_⟩
                  (repeat (first | refine Below.setCell ?_ (by first | exact Nat.le_refl _ | (simp <;> omega)) _ | refine Below.alloc ?_ (by first | exact B.size | (have := B.size; simp <;> omega)) _)); exact B
end Go.Proofs.Ytbfmdbeeiicabaa
namespace Go.Proofs.Ytbfmdbeeiicabaa
open Go.RowKit L01 L02 L05 L07 L13 L14 L15 L18 L19
set_option maxRecDepth 100000 in
set_option maxHeartbeats 2000000 in
theorem each_any (fid : Nat) (v tv sv bv : Value) (g : Nat) (O : List Hb) (p : Hb → Bool) (c : Bool) (hc : c = decide (∀ b ∈ O, p b = true)) (hcf : ∀ args W, (callFunc fid args).run Try.prog W = .ok (.enter fid args) W) (w : World) (h : Blks w bv O)
    (hcl : ∀ b ∈ O, ∀ W, Below w.heap.size w W → Calls Try.prog fid (#[.agg #[v, tv, sv, bv, .map (some g)]] ++ (#[.agg #[.int .i64 b.at_, .int .i64 b.size, .int .i64 b.kind, .int .i64 b.ty, .bool b.mark, .int .u64 b.next.toNat]] ++ #[])) W fun e W' => e = .returned (.bool (p b)) ∧ Below W.heap.size W W') :
    Calls Try.prog 68 #[.agg #[v, tv, sv, bv, .map (some g)], .func (.func fid) #[.agg #[v, tv, sv, bv, .map (some g)]] #[]] w fun e w' => e = .returned (.bool c) ∧ Below w.heap.size w w' := by
  have B : Below w.heap.size w w := Below.refl _ _
  have lo := h.len
  obtain ⟨N, hN⟩ : ∃ N, N = O.length := ⟨_, rfl⟩
  have hlen := h.len_le
  rw [← hN] at lo hlen
  have H := Lib.hid h; have HN := Lib.hid hN; have HC := Lib.hid hc; have HCL := Lib.hid hcl
  clear h hN hc hcl
  go_enter Try.func68, Try.ntmps68
  go_upto_region 1 with (fail)
  refine wp_gen (fun Wv => Bx Wv (w.heap.size) (111) (#[v, tv, sv, bv, .map (some g)]) ∧ Below w.heap.size w Wv) ⟨((Bx.at_ (by simp))), ((Below.refl _ w).alloc (by simp <;> omega) _)⟩ ?_
  rintro wa1 ⟨g1, b⟩
  replace B := B.trans (b.mono B.size); clear b
  have c_g1 := g1.cell; have f_g1 := g1.free; have a_g1 := fun o => (g1.alloc o).cell; have d_g1 := fun o o2 => ((g1.alloc o).alloc o2).cell; have e_g1 := fun o => (g1.alloc o).free
  go_wp2
  have HB := Lib.hid (And.intro g1 B)
  go_loopg [10] N (fun gg i wr => ∃ j : Nat, j ≤ N ∧ gg = N - j ∧ i = .int .i64 j ∧ Hid (Below w.heap.size w wr ∧ ∀ i b, i < j → O[i]? = some b → p b = true))
  case atStart => exact ⟨0, by omega, rfl, rfl, Lib.hid ⟨HB.out.2, fun i b hi => by omega⟩⟩
  case round =>
    obtain ⟨j, hj, rfl, rfl, hh⟩ := hrel
    clear HB g1 B c_g1 f_g1 a_g1 d_g1 e_g1
    have B := hh.out.1
    by_cases hlt : j < N
    · obtain ⟨bb, oo, b, ia, m0, m1, m2, m3, m4, m5, hb, _⟩ := (Blks.below H.out B).at_ (k := j) (by rw [← HN.out]; exact hlt)
      obtain ⟨q, hq⟩ : ∃ q, q = p b := ⟨_, rfl⟩
      have CL : Hid (∀ W, Below w.heap.size w W → Calls Try.prog fid (#[.agg #[v, tv, sv, bv, .map (some g)]] ++ (#[.agg #[.int .i64 b.at_, .int .i64 b.size, .int .i64 b.kind, .int .i64 b.ty, .bool b.mark, .int .u64 b.next.toNat]] ++ #[])) W fun e W' => e = .returned (.bool q) ∧ Below W.heap.size W W') := by
        rw [hq]; exact Lib.hid (HCL.out b (List.mem_of_getElem? hb.out))
      cases q
      · have hc : c = false := by
          rw [HC.out, decide_eq_false_iff_not]
          exact fun hall => by have := hall b (List.mem_of_getElem? hb.out); rw [← hq] at this; cases this
        subst hc
        clear hq hb
        go_upto_region 4 with (fail)
        refine wp_gen (fun Wv => Bx Wv (wr.heap.size) (38) (#[.int .i64 b.at_, .int .i64 b.size, .int .i64 b.kind, .int .i64 b.ty, .bool b.mark, .int .u64 b.next.toNat]) ∧ Below wr.heap.size wr Wv) ⟨((Bx.at_ (by simp))), ((Below.refl _ wr).alloc (by simp <;> omega) _)⟩ ?_
        rintro wa2 ⟨g2, b⟩
        replace B := B.trans (b.mono B.size); clear b
        have c_g2 := g2.cell; have f_g2 := g2.free; have a_g2 := fun o => (g2.alloc o).cell; have d_g2 := fun o o2 => ((g2.alloc o).alloc o2).cell; have e_g2 := fun o => (g2.alloc o).free
        go_wp2_with fail
        refine (CL.out _ B).mono ?_
        rintro e wz ⟨rfl, b2⟩
        replace B := B.trans (b2.mono B.size)
        go_wp2
        go_ret
        exact ⟨rfl, B⟩
      · have HZ : Hid (∀ i b, i < j + 1 → O[i]? = some b → p b = true) := Lib.hid (fun i b' hi hb' => by
          by_cases e : i = j
          · subst e; rw [hb.out] at hb'; injection hb' with hb'; subst hb'; exact hq.symm
          · exact hh.out.2 i b' (by omega) hb')
        clear hq hb
        go_upto_region 4 with (fail)
        refine wp_gen (fun Wv => Bx Wv (wr.heap.size) (38) (#[.int .i64 b.at_, .int .i64 b.size, .int .i64 b.kind, .int .i64 b.ty, .bool b.mark, .int .u64 b.next.toNat]) ∧ Below wr.heap.size wr Wv) ⟨((Bx.at_ (by simp))), ((Below.refl _ wr).alloc (by simp <;> omega) _)⟩ ?_
        rintro wa3 ⟨g2, b⟩
        replace B := B.trans (b.mono B.size); clear b
        have c_g2 := g2.cell; have f_g2 := g2.free; have a_g2 := fun o => (g2.alloc o).cell; have d_g2 := fun o o2 => ((g2.alloc o).alloc o2).cell; have e_g2 := fun o => (g2.alloc o).free
        go_wp2_with fail
        refine (CL.out _ B).mono ?_
        rintro e wz ⟨rfl, b2⟩
        replace B := B.trans (b2.mono B.size)
        have HB := Lib.hid B
        go_wp2
        go_roundg (N - (j + 1))
        case measure => omega
        case rel => exact ⟨j + 1, by omega, rfl, by go_num, Lib.hid ⟨HB.out, HZ.out⟩⟩
    · obtain rfl : j = N := by omega
      have hc : c = true := by
        rw [HC.out, decide_eq_true_iff]
        intro b hb
        obtain ⟨i, hi, e⟩ := List.mem_iff_getElem.1 hb
        exact hh.out.2 i b (by rw [HN.out]; exact hi) (by rw [List.getElem?_eq_getElem hi, e])
      subst hc
      go_wp2
      go_ret
      exact ⟨rfl, B⟩
end Go.Proofs.Ytbfmdbeeiicabaa
namespace Go.Proofs.Ytbfmdbeeiicabaa
open Go.RowKit L01 L02 L05 L07 L13 L14 L15 L18 L19
theorem in19_of {l : List UInt64} (h : allErr l = 0) {b : Hb} (hb : b ∈ O19 l) : In19 l b := by
  obtain ⟨a, h1, h2, h3, h4, h5, h6, _⟩ := objs_at h hb
  exact ⟨a, h2, by rw [h6]; exact stand_ok h5, by omega⟩
/-- the first that fails of five -/
theorem whyO_at {l : List UInt64} {T : List (List UInt8)} {O : List Hb} : ∀ (f r k : Nat), k < f → (∀ i, i < k → AllGood l T O (r + i)) → ¬ AllGood l T O (r + k) → whyO l T O f r = r + k
  | 0, r, k, hk, _, _ => by omega
  | f + 1, r, 0, hk, h1, h2 => by
    rw [Nat.add_zero] at h2
    rw [whyO, if_neg h2]; rfl
  | f + 1, r, k + 1, hk, h1, h2 => by
    have h0 := h1 0 (by omega)
    rw [Nat.add_zero] at h0
    rw [whyO, if_pos h0, whyO_at f (r + 1) k (by omega) (fun i hi => by have := h1 (i + 1) (by omega); rwa [show r + 1 + i = r + (i + 1) by omega]) (by rwa [show r + 1 + k = r + (k + 1) by omega])]
    omega
set_option maxRecDepth 100000 in
set_option maxHeartbeats 8000000 in
theorem Reason_any (v : Value) (l : List UInt64) (n : Nat) (r : Int) (hn : n = rea l) (hr : r = reaE l) (w : World) (h : Words w v l) :
    Calls Try.prog 27 #[v] w fun e w' => e = .returned (.tuple #[.int .i64 n, .int .i64 r]) ∧ Below w.heap.size w w' := by
  have B : Below w.heap.size w w := Below.refl _ _
  obtain ⟨vA, vn, vc, rfl⟩ : ∃ A n c, v = .slice A n c := by obtain ⟨A, c, e, _⟩ := h; exact ⟨A, _, c, e⟩
  have H := Lib.hid h
  obtain ⟨c, hc⟩ : ∃ c, c = chk l := ⟨_, rfl⟩
  have CT : Hid (∀ w, Words w (.slice vA vn vc) l → Calls Try.prog 55 #[.slice vA vn vc] w fun e w' => e = .returned (.int .i64 c) ∧ w = w') := by rw [hc]; exact Lib.hid (fun w h => Check_any _ l w h)
  by_cases hs : SizeOk l.length
  case neg =>
    have hr0 : r = 8 := by rw [hr, reaE, if_neg hs]
    have hn0 : n = 0 := by rw [hn, rea, if_neg hs]
    have hc8 : c = 8 := by rw [hc, chk_no hs]
    subst hr0; subst hn0; subst hc8
    clear hr hn hs hc h
    go_enter Try.func27, Try.ntmps27
    go_wp2_with fail
    refine (CT.out _ (H.out.below B)).mono ?_
    rintro e w' ⟨rfl, rfl⟩
    go_wp2
    go_ret2
    exact ⟨rfl, B⟩
  case pos =>
    have hr0 : r = 0 := by rw [hr, reaE, if_pos hs]
    have hnw : n = why l := by rw [hn, rea, if_pos hs]
    have hc0 : c = 0 := by rw [hc, chk_ok hs]
    subst hr0; subst hc0
    obtain ⟨r6, hr6⟩ : ∃ x, x = why6 l := ⟨_, rfl⟩
    have PT := Lib.hid (fun w h => parts_any (.slice vA vn vc) l hs r6 hr6 w h)
    by_cases h6 : r6 = 0
    case neg =>
      have hn0 : n = r6 := by rw [hnw, why, if_pos (by rw [← hr6]; exact h6), hr6]
      have n1 : ((r6 : Int) != 0) = true := by rw [bne_iff_ne]; omega
      have h6' := h6
      subst hn0
      clear hr hn hs hc h hnw hr6 h6
      go_enter Try.func27, Try.ntmps27
      go_wp2_with fail
      refine (CT.out _ (H.out.below B)).mono ?_
      rintro e w' ⟨rfl, rfl⟩
      go_wp2_with fail
      refine (PT.out _ (H.out.below B)).mono ?_
      rintro e wa1 ⟨a, b, c, d, m, rfl, -, hz, b⟩
      replace B := B.trans (b.mono B.size); clear b
      obtain ⟨rfl, rfl, rfl, rfl, rfl⟩ := hz h6'
      go_wp2
      go_ret2
      refine ⟨rfl, ?_⟩
      (repeat (first | refine Below.setCell ?_ (by first | exact Nat.le_refl _ | (simp <;> omega)) _ | refine Below.alloc ?_ (by first | exact B.size | (have := B.size; simp <;> omega)) _)); exact B
    case pos =>
      subst h6
      obtain ⟨e1, e2, e3, e4, e5, e6⟩ := why6_zero.1 hr6.symm
      have hT := (T19_ok e4).2
      have hIn : ∀ b ∈ O19 l, In19 l b := fun b hb => in19_of e6 hb
      have hOl : ∀ b ∈ O19 l, b.at_ < l.length := fun b hb => by obtain ⟨a, _, h2, h3, h4, _, _, _, h8, _⟩ := objs_at e6 hb; omega
      have hl1 : l.length ≤ 1000000 := by have := hs.2.1; omega
      have hsn := slots_len' e5
      obtain ⟨c7, hc7⟩ : ∃ c, c = decide (AllGood l (T19 l) (O19 l) 7) := ⟨_, rfl⟩
      obtain ⟨c8, hc8⟩ : ∃ c, c = decide (AllGood l (T19 l) (O19 l) 8) := ⟨_, rfl⟩
      obtain ⟨c9, hc9⟩ : ∃ c, c = decide (AllGood l (T19 l) (O19 l) 9) := ⟨_, rfl⟩
      obtain ⟨c10, hc10⟩ : ∃ c, c = decide (AllGood l (T19 l) (O19 l) 10) := ⟨_, rfl⟩
      obtain ⟨c11, hc11⟩ : ∃ c, c = decide (AllGood l (T19 l) (O19 l) 11) := ⟨_, rfl⟩
      have E7 := Lib.hid (fun (tv sv bv : Value) (g gn : Nat) (w : World) (h : Sg w (.slice vA vn vc) tv sv bv g gn l (T19 l) (slots l) (O19 l)) => each_any 63 (.slice vA vn vc) tv sv bv g (O19 l) (fun b => decide (Idle b)) c7 (by rw [hc7]; simp only [decide_eq_true_iff]; rfl) (fun _ _ => rfl) w h.b (fun b hb W hW => idleB_any _ tv sv bv g b _ rfl W))
      have E8 := Lib.hid (fun (tv sv bv : Value) (g gn : Nat) (w : World) (h : Sg w (.slice vA vn vc) tv sv bv g gn l (T19 l) (slots l) (O19 l)) => each_any 64 (.slice vA vn vc) tv sv bv g (O19 l) (fun b => decide (Typed (T19 l) b)) c8 (by rw [hc8]; simp only [decide_eq_true_iff]; rfl) (fun _ _ => rfl) w h.b (fun b hb W hW => typedB_any _ tv sv bv g (T19 l) b _ rfl (by obtain ⟨a, _, hk, _⟩ := hIn b hb; exact hk.bounds.2.2.2.2.1) hT W (h.t.below hW)))
      have E9 := Lib.hid (fun (h8 : AllGood l (T19 l) (O19 l) 8) (tv sv bv : Value) (g gn : Nat) (w : World) (h : Sg w (.slice vA vn vc) tv sv bv g gn l (T19 l) (slots l) (O19 l)) => each_any 65 (.slice vA vn vc) tv sv bv g (O19 l) (fun b => decide (Padded l (T19 l) b)) c9 (by rw [hc9]; simp only [decide_eq_true_iff]; rfl) (fun _ _ => rfl) w h.b (fun b hb W hW => paddedB_any _ tv sv bv g l (T19 l) b _ rfl (hIn b hb) (h8 b hb) hl1 W (h.w.below hW) (h.t.below hW)))
      have E10 := Lib.hid (fun (h8 : AllGood l (T19 l) (O19 l) 8) (tv sv bv : Value) (g gn : Nat) (w : World) (h : Sg w (.slice vA vn vc) tv sv bv g gn l (T19 l) (slots l) (O19 l)) => each_any 66 (.slice vA vn vc) tv sv bv g (O19 l) (fun b => decide (FloatsB l (T19 l) b)) c10 (by rw [hc10]; simp only [decide_eq_true_iff]; rfl) (fun _ _ => rfl) w h.b (fun b hb W hW => floatsB_any _ tv sv bv g l (T19 l) b _ rfl (hIn b hb) (h8 b hb) hl1 W (h.w.below hW) (h.t.below hW)))
      have E11 := Lib.hid (fun (h8 : AllGood l (T19 l) (O19 l) 8) (tv sv bv : Value) (g gn : Nat) (w : World) (h : Sg w (.slice vA vn vc) tv sv bv g gn l (T19 l) (slots l) (O19 l)) => each_any 67 (.slice vA vn vc) tv sv bv g (O19 l) (fun b => decide (RefsB l (T19 l) (O19 l) b)) c11 (by rw [hc11]; simp only [decide_eq_true_iff]; rfl) (fun _ _ => rfl) w h.b (fun b hb W hW => refsB_any _ tv sv bv g gn l (T19 l) (slots l) (O19 l) b _ rfl (hIn b hb) (h8 b hb) hl1 hOl W (h.below hW)))
      have hwO : n = if whyO l (T19 l) (O19 l) 5 7 ≠ 0 then whyO l (T19 l) (O19 l) 5 7 else if SlotsGood (slots l) (O19 l) then 0 else 12 := by
        rw [hnw, why, if_neg (by rw [← hr6]; exact fun h => h rfl)]
      have HW := Lib.hid hwO
      have HCS := Lib.hid (And.intro hc7 (And.intro hc8 (And.intro hc9 (And.intro hc10 hc11))))
      have HSN := Lib.hid hsn
      have hI64 : ∀ s ∈ slots l, s.used = true → i64Ok s.at_ := fun s hs' hu => by
        obtain ⟨x, hx, rfl⟩ := List.mem_map.1 hs'
        have := (allR_of e5 x hx).2.2.2 hu
        exact ⟨by omega, by omega⟩
      have HI := Lib.hid hI64
      clear hr hn hs hc h hnw hr6 e1 e2 e3 e4 e5 e6 hT hIn hOl hl1 hsn hc7 hc8 hc9 hc10 hc11 hwO hI64
      go_enter Try.func27, Try.ntmps27
      go_wp2_with fail
      refine (CT.out _ (H.out.below B)).mono ?_
      rintro e w' ⟨rfl, rfl⟩
      go_wp2_with fail
      refine (PT.out _ (H.out.below B)).mono ?_
      rintro e wa1 ⟨a, tv, sv, bv, m, rfl, hsg, -, b⟩
      replace B := B.trans (b.mono B.size); clear b
      obtain ⟨rfl, g, gn, rfl, sg⟩ := hsg (by trivial)
      obtain ⟨tA, tn, tc, rfl⟩ : ∃ A n c, tv = .slice A n c := by obtain ⟨_, _, ⟨A, c, e, _⟩, _⟩ := sg.t; exact ⟨A, _, c, e⟩
      obtain ⟨sA, sn, sc, rfl⟩ : ∃ A n c, sv = .slice A n c := by obtain ⟨A, c, e, _⟩ := sg.s; exact ⟨A, _, c, e⟩
      obtain ⟨bA, bn, bc, rfl⟩ : ∃ A n c, bv = .slice A n c := by obtain ⟨A, c, e⟩ := sg.b.form; exact ⟨A, _, c, e⟩
      go_upto_region 5 with (fail)
      refine wp_gen (fun Wv => Bx Wv (wa1.heap.size) (111) (#[.slice vA vn vc, .slice tA tn tc, .slice sA sn sc, .slice bA bn bc, .map (some g)]) ∧ Below wa1.heap.size wa1 Wv) ⟨((Bx.at_ (by simp))), ((Below.refl _ wa1).alloc (by simp <;> omega) _)⟩ ?_
      rintro wa2 ⟨g1, b⟩
      replace sg := sg.below b; replace B := B.trans (b.mono B.size); clear b
      have c_g1 := g1.cell; have f_g1 := g1.free; have a_g1 := fun o => (g1.alloc o).cell; have d_g1 := fun o o2 => ((g1.alloc o).alloc o2).cell; have e_g1 := fun o => (g1.alloc o).free
      go_upto_region 7 with (fail)
      go_wp2
      refine wp_gen (fun Wv => Bx Wv (wa2.heap.size) (114) (#[.func (.func 63) #[.agg #[.slice vA vn vc, .slice tA tn tc, .slice sA sn sc, .slice bA bn bc, .map (some g)]] #[], .func (.func 64) #[.agg #[.slice vA vn vc, .slice tA tn tc, .slice sA sn sc, .slice bA bn bc, .map (some g)]] #[], .func (.func 65) #[.agg #[.slice vA vn vc, .slice tA tn tc, .slice sA sn sc, .slice bA bn bc, .map (some g)]] #[], .func (.func 66) #[.agg #[.slice vA vn vc, .slice tA tn tc, .slice sA sn sc, .slice bA bn bc, .map (some g)]] #[], .func (.func 67) #[.agg #[.slice vA vn vc, .slice tA tn tc, .slice sA sn sc, .slice bA bn bc, .map (some g)]] #[]]) ∧ Below wa2.heap.size wa2 Wv) ⟨((Bx.at_ (by simp))), ((Below.refl _ wa2).alloc (by simp <;> omega) _)⟩ ?_
      rintro wa3 ⟨g2, b⟩
      replace sg := sg.below b; try clear c_g1 f_g1 a_g1 d_g1 e_g1
      replace g1 := g1.below b; have c_g1 := g1.cell; have f_g1 := g1.free; have a_g1 := fun o => (g1.alloc o).cell; have d_g1 := fun o o2 => ((g1.alloc o).alloc o2).cell; have e_g1 := fun o => (g1.alloc o).free; replace B := B.trans (b.mono B.size); clear b
      have c_g2 := g2.cell; have f_g2 := g2.free; have a_g2 := fun o => (g2.alloc o).cell; have d_g2 := fun o o2 => ((g2.alloc o).alloc o2).cell; have e_g2 := fun o => (g2.alloc o).free
      have HG0 := Lib.hid (And.intro g1 (And.intro g2 (And.intro sg B)))
      clear g1 g2 sg B c_g1 f_g1 a_g1 d_g1 e_g1 c_g2 f_g2 a_g2 d_g2 e_g2
      go_loopg [36] 5 (fun gg i wr => ∃ j : Nat, j ≤ 5 ∧ gg = 5 - j ∧ i = .int .i64 j ∧ Hid (Bx wr wa1.heap.size 111 #[.slice vA vn vc, .slice tA tn tc, .slice sA sn sc, .slice bA bn bc, .map (some g)] ∧ Bx wr wa2.heap.size 114 #[.func (.func 63) #[.agg #[.slice vA vn vc, .slice tA tn tc, .slice sA sn sc, .slice bA bn bc, .map (some g)]] #[], .func (.func 64) #[.agg #[.slice vA vn vc, .slice tA tn tc, .slice sA sn sc, .slice bA bn bc, .map (some g)]] #[], .func (.func 65) #[.agg #[.slice vA vn vc, .slice tA tn tc, .slice sA sn sc, .slice bA bn bc, .map (some g)]] #[], .func (.func 66) #[.agg #[.slice vA vn vc, .slice tA tn tc, .slice sA sn sc, .slice bA bn bc, .map (some g)]] #[], .func (.func 67) #[.agg #[.slice vA vn vc, .slice tA tn tc, .slice sA sn sc, .slice bA bn bc, .map (some g)]] #[]] ∧ Sg wr (.slice vA vn vc) (.slice tA tn tc) (.slice sA sn sc) (.slice bA bn bc) g gn l (T19 l) (slots l) (O19 l) ∧ Below w.heap.size w wr ∧ ∀ i, i < j → AllGood l (T19 l) (O19 l) (7 + i)))
      case atStart =>
        obtain ⟨g1, g2, sg, B⟩ := HG0.out
        exact ⟨0, by omega, by omega, rfl, Lib.hid ⟨g1, g2, sg, B, fun i hi => by omega⟩⟩
      case round =>
        obtain ⟨j, hj, hgj, rfl, hh⟩ := hrel
        clear HG0
        obtain ⟨g1, g2, sg, B, -⟩ := hh.out
        have c_g1 := g1.cell; have c_g2 := g2.cell
        rcases (show j = 0 ∨ j = 1 ∨ j = 2 ∨ j = 3 ∨ j = 4 ∨ j = 5 by omega) with rfl | rfl | rfl | rfl | rfl | rfl
        all_goals subst hgj
        · -- reason 7
          have EK := Lib.hid (fun w h => E7.out (.slice tA tn tc) (.slice sA sn sc) (.slice bA bn bc) g gn w h)
          cases c7
          · have hno : ¬ AllGood l (T19 l) (O19 l) (7 + 0) := of_decide_eq_false HCS.out.1.symm
            have hw := whyO_at (l := l) (T := T19 l) (O := O19 l) 5 7 0 (by omega) (fun i hi => hh.out.2.2.2.2 i (by omega)) hno
            have hn0 : n = 7 + 0 := by rw [HW.out, hw, if_pos (by omega)]
            subst hn0
            clear hno hw
            go_wp2_with fail
            refine (EK.out _ sg).mono ?_
            rintro e wa4 ⟨rfl, b⟩
            try clear c_g1 f_g1 a_g1 d_g1 e_g1
            replace g1 := g1.below b; have c_g1 := g1.cell; have f_g1 := g1.free; have a_g1 := fun o => (g1.alloc o).cell; have d_g1 := fun o o2 => ((g1.alloc o).alloc o2).cell; have e_g1 := fun o => (g1.alloc o).free; try clear c_g2 f_g2 a_g2 d_g2 e_g2
            replace g2 := g2.below b; have c_g2 := g2.cell; have f_g2 := g2.free; have a_g2 := fun o => (g2.alloc o).cell; have d_g2 := fun o o2 => ((g2.alloc o).alloc o2).cell; have e_g2 := fun o => (g2.alloc o).free; replace sg := sg.below b; replace B := B.trans (b.mono B.size); clear b
            go_wp2
            go_ret2
            exact ⟨rfl, B⟩
          · have hyes : AllGood l (T19 l) (O19 l) (7 + 0) := of_decide_eq_true HCS.out.1.symm
            have HA : Hid (∀ i, i < 0 + 1 → AllGood l (T19 l) (O19 l) (7 + i)) := Lib.hid (fun i hi => by
              by_cases e : i = 0
              · subst e; exact hyes
              · exact hh.out.2.2.2.2 i (by omega))
            clear hyes
            go_wp2_with fail
            refine (EK.out _ sg).mono ?_
            rintro e wa5 ⟨rfl, b⟩
            try clear c_g1 f_g1 a_g1 d_g1 e_g1
            replace g1 := g1.below b; have c_g1 := g1.cell; have f_g1 := g1.free; have a_g1 := fun o => (g1.alloc o).cell; have d_g1 := fun o o2 => ((g1.alloc o).alloc o2).cell; have e_g1 := fun o => (g1.alloc o).free; try clear c_g2 f_g2 a_g2 d_g2 e_g2
            replace g2 := g2.below b; have c_g2 := g2.cell; have f_g2 := g2.free; have a_g2 := fun o => (g2.alloc o).cell; have d_g2 := fun o o2 => ((g2.alloc o).alloc o2).cell; have e_g2 := fun o => (g2.alloc o).free; replace sg := sg.below b; replace B := B.trans (b.mono B.size); clear b
            have HG := Lib.hid (And.intro g1 (And.intro g2 (And.intro sg (And.intro B HA.out))))
            go_wp2
            go_roundg (5 - (0 + 1))
            case measure => omega
            case rel => exact ⟨0 + 1, by omega, rfl, by go_num, HG⟩
        · -- reason 8
          have EK := Lib.hid (fun w h => E8.out (.slice tA tn tc) (.slice sA sn sc) (.slice bA bn bc) g gn w h)
          cases c8
          · have hno : ¬ AllGood l (T19 l) (O19 l) (7 + 1) := of_decide_eq_false HCS.out.2.1.symm
            have hw := whyO_at (l := l) (T := T19 l) (O := O19 l) 5 7 1 (by omega) (fun i hi => hh.out.2.2.2.2 i (by omega)) hno
            have hn0 : n = 7 + 1 := by rw [HW.out, hw, if_pos (by omega)]
            subst hn0
            clear hno hw
            go_wp2_with fail
            refine (EK.out _ sg).mono ?_
            rintro e wa6 ⟨rfl, b⟩
            try clear c_g1 f_g1 a_g1 d_g1 e_g1
            replace g1 := g1.below b; have c_g1 := g1.cell; have f_g1 := g1.free; have a_g1 := fun o => (g1.alloc o).cell; have d_g1 := fun o o2 => ((g1.alloc o).alloc o2).cell; have e_g1 := fun o => (g1.alloc o).free; try clear c_g2 f_g2 a_g2 d_g2 e_g2
            replace g2 := g2.below b; have c_g2 := g2.cell; have f_g2 := g2.free; have a_g2 := fun o => (g2.alloc o).cell; have d_g2 := fun o o2 => ((g2.alloc o).alloc o2).cell; have e_g2 := fun o => (g2.alloc o).free; replace sg := sg.below b; replace B := B.trans (b.mono B.size); clear b
            go_wp2
            go_ret2
            exact ⟨rfl, B⟩
          · have hyes : AllGood l (T19 l) (O19 l) (7 + 1) := of_decide_eq_true HCS.out.2.1.symm
            have HA : Hid (∀ i, i < 1 + 1 → AllGood l (T19 l) (O19 l) (7 + i)) := Lib.hid (fun i hi => by
              by_cases e : i = 1
              · subst e; exact hyes
              · exact hh.out.2.2.2.2 i (by omega))
            clear hyes
            go_wp2_with fail
            refine (EK.out _ sg).mono ?_
            rintro e wa7 ⟨rfl, b⟩
            try clear c_g1 f_g1 a_g1 d_g1 e_g1
            replace g1 := g1.below b; have c_g1 := g1.cell; have f_g1 := g1.free; have a_g1 := fun o => (g1.alloc o).cell; have d_g1 := fun o o2 => ((g1.alloc o).alloc o2).cell; have e_g1 := fun o => (g1.alloc o).free; try clear c_g2 f_g2 a_g2 d_g2 e_g2
            replace g2 := g2.below b; have c_g2 := g2.cell; have f_g2 := g2.free; have a_g2 := fun o => (g2.alloc o).cell; have d_g2 := fun o o2 => ((g2.alloc o).alloc o2).cell; have e_g2 := fun o => (g2.alloc o).free; replace sg := sg.below b; replace B := B.trans (b.mono B.size); clear b
            have HG := Lib.hid (And.intro g1 (And.intro g2 (And.intro sg (And.intro B HA.out))))
            go_wp2
            go_roundg (5 - (1 + 1))
            case measure => omega
            case rel => exact ⟨1 + 1, by omega, rfl, by go_num, HG⟩
        · -- reason 9
          have EK := Lib.hid (fun w h => E9.out (hh.out.2.2.2.2 1 (by omega)) (.slice tA tn tc) (.slice sA sn sc) (.slice bA bn bc) g gn w h)
          cases c9
          · have hno : ¬ AllGood l (T19 l) (O19 l) (7 + 2) := of_decide_eq_false HCS.out.2.2.1.symm
            have hw := whyO_at (l := l) (T := T19 l) (O := O19 l) 5 7 2 (by omega) (fun i hi => hh.out.2.2.2.2 i (by omega)) hno
            have hn0 : n = 7 + 2 := by rw [HW.out, hw, if_pos (by omega)]
            subst hn0
            clear hno hw
            go_wp2_with fail
            refine (EK.out _ sg).mono ?_
            rintro e wa8 ⟨rfl, b⟩
            try clear c_g1 f_g1 a_g1 d_g1 e_g1
            replace g1 := g1.below b; have c_g1 := g1.cell; have f_g1 := g1.free; have a_g1 := fun o => (g1.alloc o).cell; have d_g1 := fun o o2 => ((g1.alloc o).alloc o2).cell; have e_g1 := fun o => (g1.alloc o).free; try clear c_g2 f_g2 a_g2 d_g2 e_g2
            replace g2 := g2.below b; have c_g2 := g2.cell; have f_g2 := g2.free; have a_g2 := fun o => (g2.alloc o).cell; have d_g2 := fun o o2 => ((g2.alloc o).alloc o2).cell; have e_g2 := fun o => (g2.alloc o).free; replace sg := sg.below b; replace B := B.trans (b.mono B.size); clear b
            go_wp2
            go_ret2
            exact ⟨rfl, B⟩
          · have hyes : AllGood l (T19 l) (O19 l) (7 + 2) := of_decide_eq_true HCS.out.2.2.1.symm
            have HA : Hid (∀ i, i < 2 + 1 → AllGood l (T19 l) (O19 l) (7 + i)) := Lib.hid (fun i hi => by
              by_cases e : i = 2
              · subst e; exact hyes
              · exact hh.out.2.2.2.2 i (by omega))
            clear hyes
            go_wp2_with fail
            refine (EK.out _ sg).mono ?_
            rintro e wa9 ⟨rfl, b⟩
            try clear c_g1 f_g1 a_g1 d_g1 e_g1
            replace g1 := g1.below b; have c_g1 := g1.cell; have f_g1 := g1.free; have a_g1 := fun o => (g1.alloc o).cell; have d_g1 := fun o o2 => ((g1.alloc o).alloc o2).cell; have e_g1 := fun o => (g1.alloc o).free; try clear c_g2 f_g2 a_g2 d_g2 e_g2
            replace g2 := g2.below b; have c_g2 := g2.cell; have f_g2 := g2.free; have a_g2 := fun o => (g2.alloc o).cell; have d_g2 := fun o o2 => ((g2.alloc o).alloc o2).cell; have e_g2 := fun o => (g2.alloc o).free; replace sg := sg.below b; replace B := B.trans (b.mono B.size); clear b
            have HG := Lib.hid (And.intro g1 (And.intro g2 (And.intro sg (And.intro B HA.out))))
            go_wp2
            go_roundg (5 - (2 + 1))
            case measure => omega
            case rel => exact ⟨2 + 1, by omega, rfl, by go_num, HG⟩
        · -- reason 10
          have EK := Lib.hid (fun w h => E10.out (hh.out.2.2.2.2 1 (by omega)) (.slice tA tn tc) (.slice sA sn sc) (.slice bA bn bc) g gn w h)
          cases c10
          · have hno : ¬ AllGood l (T19 l) (O19 l) (7 + 3) := of_decide_eq_false HCS.out.2.2.2.1.symm
            have hw := whyO_at (l := l) (T := T19 l) (O := O19 l) 5 7 3 (by omega) (fun i hi => hh.out.2.2.2.2 i (by omega)) hno
            have hn0 : n = 7 + 3 := by rw [HW.out, hw, if_pos (by omega)]
            subst hn0
            clear hno hw
            go_wp2_with fail
            refine (EK.out _ sg).mono ?_
            rintro e wa10 ⟨rfl, b⟩
            try clear c_g1 f_g1 a_g1 d_g1 e_g1
            replace g1 := g1.below b; have c_g1 := g1.cell; have f_g1 := g1.free; have a_g1 := fun o => (g1.alloc o).cell; have d_g1 := fun o o2 => ((g1.alloc o).alloc o2).cell; have e_g1 := fun o => (g1.alloc o).free; try clear c_g2 f_g2 a_g2 d_g2 e_g2
            replace g2 := g2.below b; have c_g2 := g2.cell; have f_g2 := g2.free; have a_g2 := fun o => (g2.alloc o).cell; have d_g2 := fun o o2 => ((g2.alloc o).alloc o2).cell; have e_g2 := fun o => (g2.alloc o).free; replace sg := sg.below b; replace B := B.trans (b.mono B.size); clear b
            go_wp2
            go_ret2
            exact ⟨rfl, B⟩
          · have hyes : AllGood l (T19 l) (O19 l) (7 + 3) := of_decide_eq_true HCS.out.2.2.2.1.symm
            have HA : Hid (∀ i, i < 3 + 1 → AllGood l (T19 l) (O19 l) (7 + i)) := Lib.hid (fun i hi => by
              by_cases e : i = 3
              · subst e; exact hyes
              · exact hh.out.2.2.2.2 i (by omega))
            clear hyes
            go_wp2_with fail
            refine (EK.out _ sg).mono ?_
            rintro e wa11 ⟨rfl, b⟩
            try clear c_g1 f_g1 a_g1 d_g1 e_g1
            replace g1 := g1.below b; have c_g1 := g1.cell; have f_g1 := g1.free; have a_g1 := fun o => (g1.alloc o).cell; have d_g1 := fun o o2 => ((g1.alloc o).alloc o2).cell; have e_g1 := fun o => (g1.alloc o).free; try clear c_g2 f_g2 a_g2 d_g2 e_g2
            replace g2 := g2.below b; have c_g2 := g2.cell; have f_g2 := g2.free; have a_g2 := fun o => (g2.alloc o).cell; have d_g2 := fun o o2 => ((g2.alloc o).alloc o2).cell; have e_g2 := fun o => (g2.alloc o).free; replace sg := sg.below b; replace B := B.trans (b.mono B.size); clear b
            have HG := Lib.hid (And.intro g1 (And.intro g2 (And.intro sg (And.intro B HA.out))))
            go_wp2
            go_roundg (5 - (3 + 1))
            case measure => omega
            case rel => exact ⟨3 + 1, by omega, rfl, by go_num, HG⟩
        · -- reason 11
          have EK := Lib.hid (fun w h => E11.out (hh.out.2.2.2.2 1 (by omega)) (.slice tA tn tc) (.slice sA sn sc) (.slice bA bn bc) g gn w h)
          cases c11
          · have hno : ¬ AllGood l (T19 l) (O19 l) (7 + 4) := of_decide_eq_false HCS.out.2.2.2.2.symm
            have hw := whyO_at (l := l) (T := T19 l) (O := O19 l) 5 7 4 (by omega) (fun i hi => hh.out.2.2.2.2 i (by omega)) hno
            have hn0 : n = 7 + 4 := by rw [HW.out, hw, if_pos (by omega)]
            subst hn0
            clear hno hw
            go_wp2_with fail
            refine (EK.out _ sg).mono ?_
            rintro e wa12 ⟨rfl, b⟩
            try clear c_g1 f_g1 a_g1 d_g1 e_g1
            replace g1 := g1.below b; have c_g1 := g1.cell; have f_g1 := g1.free; have a_g1 := fun o => (g1.alloc o).cell; have d_g1 := fun o o2 => ((g1.alloc o).alloc o2).cell; have e_g1 := fun o => (g1.alloc o).free; try clear c_g2 f_g2 a_g2 d_g2 e_g2
            replace g2 := g2.below b; have c_g2 := g2.cell; have f_g2 := g2.free; have a_g2 := fun o => (g2.alloc o).cell; have d_g2 := fun o o2 => ((g2.alloc o).alloc o2).cell; have e_g2 := fun o => (g2.alloc o).free; replace sg := sg.below b; replace B := B.trans (b.mono B.size); clear b
            go_wp2
            go_ret2
            exact ⟨rfl, B⟩
          · have hyes : AllGood l (T19 l) (O19 l) (7 + 4) := of_decide_eq_true HCS.out.2.2.2.2.symm
            have HA : Hid (∀ i, i < 4 + 1 → AllGood l (T19 l) (O19 l) (7 + i)) := Lib.hid (fun i hi => by
              by_cases e : i = 4
              · subst e; exact hyes
              · exact hh.out.2.2.2.2 i (by omega))
            clear hyes
            go_wp2_with fail
            refine (EK.out _ sg).mono ?_
            rintro e wa13 ⟨rfl, b⟩
            try clear c_g1 f_g1 a_g1 d_g1 e_g1
            replace g1 := g1.below b; have c_g1 := g1.cell; have f_g1 := g1.free; have a_g1 := fun o => (g1.alloc o).cell; have d_g1 := fun o o2 => ((g1.alloc o).alloc o2).cell; have e_g1 := fun o => (g1.alloc o).free; try clear c_g2 f_g2 a_g2 d_g2 e_g2
            replace g2 := g2.below b; have c_g2 := g2.cell; have f_g2 := g2.free; have a_g2 := fun o => (g2.alloc o).cell; have d_g2 := fun o o2 => ((g2.alloc o).alloc o2).cell; have e_g2 := fun o => (g2.alloc o).free; replace sg := sg.below b; replace B := B.trans (b.mono B.size); clear b
            have HG := Lib.hid (And.intro g1 (And.intro g2 (And.intro sg (And.intro B HA.out))))
            go_wp2
            go_roundg (5 - (4 + 1))
            case measure => omega
            case rel => exact ⟨4 + 1, by omega, rfl, by go_num, HG⟩
        · have hall : ∀ i, 7 ≤ i → i < 7 + 5 → AllGood l (T19 l) (O19 l) i := fun i h1 h2 => by
            have := hh.out.2.2.2.2 (i - 7) (by omega)
            rwa [show 7 + (i - 7) = i by omega] at this
          have hw0 := (whyO_zero (l := l) (T := T19 l) (O := O19 l) 5 7 (by omega)).2 hall
          have hn0 : n = if SlotsGood (slots l) (O19 l) then 0 else 12 := by rw [HW.out, hw0, if_neg (by omega)]
          have HN := Lib.hid hn0
          have ls := Rd.len sg.s Try.underlying64
          rw [HSN.out] at ls
          clear hall hw0 hn0 g2 c_g2
          go_wp2
          have HG1 := Lib.hid (And.intro g1 (And.intro sg B))
          clear g1 sg B c_g1
          go_loopg [51] 16 (fun gg i wr2 => ∃ j : Nat, j ≤ 16 ∧ gg = 16 - j ∧ i = .int .i64 j ∧ Hid (Bx wr2 wa1.heap.size 111 #[.slice vA vn vc, .slice tA tn tc, .slice sA sn sc, .slice bA bn bc, .map (some g)] ∧ Sg wr2 (.slice vA vn vc) (.slice tA tn tc) (.slice sA sn sc) (.slice bA bn bc) g gn l (T19 l) (slots l) (O19 l) ∧ Below w.heap.size w wr2 ∧ ∀ i s, i < j → (slots l)[i]? = some s → s.used = true → IsObj (O19 l) s.at_))
          case atStart =>
            obtain ⟨g1, sg, B⟩ := HG1.out
            exact ⟨0, by omega, by omega, rfl, Lib.hid ⟨g1, sg, B, fun i s hi => by omega⟩⟩
          case round =>
            obtain ⟨j, hj, rfl, rfl, hh2⟩ := hrel
            clear HG1
            obtain ⟨g1, sg, B, -⟩ := hh2.out
            have c_g1 := g1.cell
            by_cases hlt : j < 16
            · obtain ⟨bb, oo, t, ia, m0, m1, m2, ht⟩ := sg.s.at_ (P := Try.prog) Try.underlying64 size_slot (k := j) (by rw [HSN.out]; exact hlt)
              obtain ⟨tg, tu, ta⟩ := t
              dsimp only at m0 m1 m2
              have HT := Lib.hid ht.out
              clear ht
              cases tu
              · have HZ : Hid (∀ i s, i < j + 1 → (slots l)[i]? = some s → s.used = true → IsObj (O19 l) s.at_) := Lib.hid (fun i s hi hs hu => by
                  by_cases e : i = j
                  · subst e; rw [HT.out] at hs; injection hs with hs; subst hs; cases hu
                  · exact hh2.out.2.2.2 i s (by omega) hs hu)
                go_upto_region 16 with (fail)
                refine wp_gen (fun Wv => Bx Wv (wr.heap.size) (68) (#[.int .i64 tg, .bool false, .int .i64 ta]) ∧ Below wr.heap.size wr Wv) ⟨((Bx.at_ (by simp))), ((Below.refl _ wr).alloc (by simp <;> omega) _)⟩ ?_
                rintro wa14 ⟨g2, b⟩
                try clear c_g1 f_g1 a_g1 d_g1 e_g1
                replace g1 := g1.below b; have c_g1 := g1.cell; have f_g1 := g1.free; have a_g1 := fun o => (g1.alloc o).cell; have d_g1 := fun o o2 => ((g1.alloc o).alloc o2).cell; have e_g1 := fun o => (g1.alloc o).free; replace sg := sg.below b; replace B := B.trans (b.mono B.size); clear b
                have c_g2 := g2.cell; have f_g2 := g2.free; have a_g2 := fun o => (g2.alloc o).cell; have d_g2 := fun o o2 => ((g2.alloc o).alloc o2).cell; have e_g2 := fun o => (g2.alloc o).free
                have HG := Lib.hid (And.intro g1 (And.intro sg (And.intro B HZ.out)))
                go_wp2
                go_roundg (16 - (j + 1))
                case measure => omega
                case rel => exact ⟨j + 1, by omega, rfl, by go_num, HG⟩
              · have hi64 := HI.out _ (List.mem_of_getElem? HT.out) rfl
                obtain ⟨q, hq⟩ : ∃ q, q = decide (IsObj (O19 l) ta) := ⟨_, rfl⟩
                go_upto_region 16 with (fail)
                refine wp_gen (fun Wv => Bx Wv (wr.heap.size) (68) (#[.int .i64 tg, .bool true, .int .i64 ta]) ∧ Below wr.heap.size wr Wv) ⟨((Bx.at_ (by simp))), ((Below.refl _ wr).alloc (by simp <;> omega) _)⟩ ?_
                rintro wa15 ⟨g2, b⟩
                try clear c_g1 f_g1 a_g1 d_g1 e_g1
                replace g1 := g1.below b; have c_g1 := g1.cell; have f_g1 := g1.free; have a_g1 := fun o => (g1.alloc o).cell; have d_g1 := fun o o2 => ((g1.alloc o).alloc o2).cell; have e_g1 := fun o => (g1.alloc o).free; replace sg := sg.below b; replace B := B.trans (b.mono B.size); clear b
                have c_g2 := g2.cell; have f_g2 := g2.free; have a_g2 := fun o => (g2.alloc o).cell; have d_g2 := fun o o2 => ((g2.alloc o).alloc o2).cell; have e_g2 := fun o => (g2.alloc o).free
                have hlk := sg.look (a := ta) hi64
                rw [← hq] at hlk
                cases q
                · have hno : ¬ SlotsGood (slots l) (O19 l) := fun hg => of_decide_eq_false hq.symm (hg _ (List.mem_of_getElem? HT.out) rfl)
                  have hn0 : n = 12 := by rw [HN.out, if_neg hno]
                  subst hn0
                  clear hno hq
                  go_wp2
                  go_ret2
                  exact ⟨rfl, B⟩
                · have HZ : Hid (∀ i s, i < j + 1 → (slots l)[i]? = some s → s.used = true → IsObj (O19 l) s.at_) := Lib.hid (fun i s hi hs hu => by
                    by_cases e : i = j
                    · subst e; rw [HT.out] at hs; injection hs with hs; subst hs; exact of_decide_eq_true hq.symm
                    · exact hh2.out.2.2.2 i s (by omega) hs hu)
                  have HG := Lib.hid (And.intro g1 (And.intro sg (And.intro B HZ.out)))
                  clear hq
                  go_wp2
                  go_roundg (16 - (j + 1))
                  case measure => omega
                  case rel => exact ⟨j + 1, by omega, rfl, by go_num, HG⟩
            · obtain rfl : j = 16 := by omega
              have hsg : SlotsGood (slots l) (O19 l) := fun s hs hu => by
                obtain ⟨i, hi, e⟩ := List.mem_iff_getElem.1 hs
                exact hh2.out.2.2.2 i s (by rw [← HSN.out]; exact hi) (by rw [List.getElem?_eq_getElem hi, e]) hu
              have hn0 : n = 0 := by rw [HN.out, if_pos hsg]
              subst hn0
              clear hsg
              go_wp2
              go_ret2
              exact ⟨rfl, B⟩
theorem Check19_any (v : Value) (l : List UInt64) (r : Int) (hr : r = chk19 l) (w : World) (h : Words w v l) :
    Calls Try.prog 29 #[v] w fun e w' => e = .returned (.int .i64 r) ∧ Below w.heap.size w w' := by
  have B : Below w.heap.size w w := Below.refl _ _
  have H := Lib.hid h
  obtain ⟨n, hn⟩ : ∃ n, n = rea l := ⟨_, rfl⟩
  obtain ⟨q, hq⟩ : ∃ q, q = reaE l := ⟨_, rfl⟩
  have RT := Lib.hid (fun w h => Reason_any v l n q hn hq w h)
  have hcase : (q = 0 ∧ n = 0 ∧ r = 0) ∨ (q = 0 ∧ 0 < n ∧ r = 50) ∨ (q = 8 ∧ r = 8) := by
    rw [hr, hn, hq]
    by_cases hs : SizeOk l.length
    · by_cases h0 : why l = 0
      · exact .inl ⟨by rw [reaE, if_pos hs], by rw [rea, if_pos hs, h0], by rw [chk19, if_pos hs, if_pos h0]⟩
      · exact .inr (.inl ⟨by rw [reaE, if_pos hs], by rw [rea, if_pos hs]; omega, by rw [chk19, if_pos hs, if_neg h0]⟩)
    · exact .inr (.inr ⟨by rw [reaE, if_neg hs], by rw [chk19, if_neg hs]⟩)
  clear hn hq hr h
  rcases hcase with ⟨rfl, rfl, rfl⟩ | ⟨rfl, h1, rfl⟩ | ⟨rfl, rfl⟩
  · skip
    go_enter Try.func29, Try.ntmps29
    go_wp2_with fail
    refine (RT.out _ (H.out.below B)).mono ?_
    rintro e wa1 ⟨rfl, b⟩
    replace B := B.trans (b.mono B.size); clear b
    go_wp2
    go_ret
    exact ⟨rfl, B⟩
  · have n1 : (0 : Int) < (n : Int) := by omega
    go_enter Try.func29, Try.ntmps29
    go_wp2_with fail
    refine (RT.out _ (H.out.below B)).mono ?_
    rintro e wa1 ⟨rfl, b⟩
    replace B := B.trans (b.mono B.size); clear b
    go_wp2
    go_ret
    exact ⟨rfl, B⟩
  · skip
    go_enter Try.func29, Try.ntmps29
    go_wp2_with fail
    refine (RT.out _ (H.out.below B)).mono ?_
    rintro e wa1 ⟨rfl, b⟩
    replace B := B.trans (b.mono B.size); clear b
    go_wp2
    go_ret
    exact ⟨rfl, B⟩
end Go.Proofs.Ytbfmdbeeiicabaa
namespace Go.Proofs.Ytbfmdbeeiicabaa
open Go.RowKit L02 L05 L06 L07
end Go.Proofs.Ytbfmdbeeiicabaa
namespace Go.Proofs.Ytbfmdbeeiicabaa
open Go.RowKit L01 L02 L05 L06 L07 L13 L14 L15 L18 L19
/-- the number of the block at an address, or -1 -/
def idxI (O : List Hb) (a : Int) : Int := match idx O a with | some i => (i : Int) | none => -1
end Go.Proofs.Ytbfmdbeeiicabaa
namespace Go.Proofs.Ytbfmdbeeiicabaa
open Go.RowKit L01 L02 L05 L06 L07 L13 L14 L15 L18 L19
end Go.Proofs.Ytbfmdbeeiicabaa
namespace Go.Proofs.Ytbfmdbeeiicabaa
open Go.RowKit L01 L02 L05 L06 L07 L13 L14 L15 L18 L19
end Go.Proofs.Ytbfmdbeeiicabaa
namespace Go.Proofs.Ytbfmdbeeiicabaa
open Go.RowKit L01 L02 L05 L06 L07 L13 L14 L15 L18 L19
/-- what the reference knows of an image -/
structure Rs19 (W : World) (v tv sv bv : Value) (l : List UInt64) (T : List (List UInt8)) (S : List Sl) (O : List Hb) : Prop where
  w : Words W v l
  t : Typs W tv T
  s : Slots W sv S
  b : Blks W bv O
theorem Rs19.below {W W' : World} {v tv sv bv : Value} {l : List UInt64} {T : List (List UInt8)} {S : List Sl} {O : List Hb} (h : Rs19 W v tv sv bv l T S O) (hb : Below W.heap.size W W') : Rs19 W' v tv sv bv l T S O :=
  ⟨h.w.below hb, h.t.below hb, Slots.below h.s hb, h.b.below hb⟩
end Go.Proofs.Ytbfmdbeeiicabaa
namespace Go.Proofs.Ytbfmdbeeiicabaa
open Go.RowKit L01 L02 L05 L06 L07 L13 L14 L15 L18 L19
end Go.Proofs.Ytbfmdbeeiicabaa
namespace Go.Proofs.Ytbfmdbeeiicabaa.L16
open L02 L14 L15 L19
def free (L : List Hb) : List Hb := L.filter fun b => decide (b.kind = 2)
end Go.Proofs.Ytbfmdbeeiicabaa.L16
namespace Go.Proofs.Ytbfmdbeeiicabaa.L19
open L02 L07 L13 L14 L15 L16 L18
/-- blocks that stand one behind the other, from an address to another -/
inductive Seg (l : List UInt64) : Nat → List Hb → Nat → Prop where
  | nil {k : Nat} : k ≤ l.length → Seg l k [] k
  | cons {k q : Nat} {L : List Hb} : k < l.length → StOk l k → Seg l (k + szN l k) L q → Seg l k (stand l k :: L) q
section
variable {l l' : List UInt64} {k p q : Nat} {A B L : List Hb} {b : Hb}
theorem Seg.le (h : Seg l k L q) : k ≤ q ∧ q ≤ l.length := by
  induction h with
  | nil h => exact ⟨Nat.le_refl _, h⟩
  | cons hk hs _ ih => have := szN_ge hs; omega
theorem Seg.of_chain (h : Chain l k L) : Seg l k L l.length := by
  induction h with
  | nil => exact .nil (Nat.le_refl _)
  | cons hk hs _ ih => exact .cons hk hs ih
theorem Seg.chain (h : Seg l k L q) (e : q = l.length) : Chain l k L := by
  induction h with
  | nil h => subst e; exact .nil
  | cons hk hs _ ih => exact .cons hk hs (ih e)
theorem Seg.append (h1 : Seg l k A p) (h2 : Seg l p B q) : Seg l k (A ++ B) q := by
  induction h1 with
  | nil h => exact h2
  | cons hk hs _ ih => exact .cons hk hs (ih h2)
theorem Seg.split : ∀ {A : List Hb} {k : Nat}, Seg l k (A ++ B) q → ∃ p, Seg l k A p ∧ Seg l p B q
  | [], k, h => ⟨k, .nil (Nat.le_trans (Seg.le h).1 (Seg.le h).2), h⟩
  | a :: A, k, h => by
    rw [List.cons_append] at h
    cases h with
    | cons hk hs ht =>
      obtain ⟨p, h1, h2⟩ := Seg.split ht
      exact ⟨p, .cons hk hs h1, h2⟩
theorem Seg.congr (h : Seg l k L q) (hl : l'.length = l.length) (he : ∀ i, k ≤ i → i < q → l'.getD i 0 = l.getD i 0) : Seg l' k L q := by
  induction h with
  | nil h => exact .nil (by omega)
  | cons hk hs ht ih =>
    rename_i k q L
    have hz := szN_ge hs
    have hle := ht.le
    have e0 := he k (Nat.le_refl _) (by omega)
    have e1 := he (k + 1) (by omega) (by omega)
    have es : stand l' k = stand l k := by unfold stand; rw [e0, e1]
    have ez : szN l' k = szN l k := by unfold szN; rw [e0]
    rw [← es]
    refine .cons (by omega) ?_ ?_
    · unfold StOk; rw [e0, hl]; exact hs
    · rw [ez]; exact ih (fun i h1 h2 => he i (by omega) h2)
/-- the first block -/
theorem Seg.head (h : Seg l k (b :: L) q) : b.at_ = k ∧ BkOk b ∧ b = stand l k ∧ StOk l k ∧ ((k + szN l k : Nat) : Int) = k + b.size ∧ Seg l (k + szN l k) L q := by
  cases h with
  | cons hk hs ht =>
    have hz := szN_ge hs
    refine ⟨rfl, stand_ok hs, rfl, hs, ?_, ht⟩
    rw [stand_size hs]; omega
theorem Seg.one (h : Seg l k [b] q) : b.at_ = k ∧ (q : Int) = k + b.size ∧ BkOk b := by
  obtain ⟨h1, h2, _, _, h3, h4⟩ := h.head
  cases h4 with
  | nil => exact ⟨h1, h3, h2⟩
theorem Seg.mem (h : Seg l k L q) : ∀ b ∈ L, ∃ a : Nat, k ≤ a ∧ StOk l a ∧ b = stand l a ∧ a + szN l a ≤ q := by
  induction h with
  | nil h => intro b hb; cases hb
  | cons hk hs ht ih =>
    intro b hb
    have hle := ht.le
    have hz := szN_ge hs
    rcases List.mem_cons.1 hb with rfl | hb
    · exact ⟨_, Nat.le_refl _, hs, rfl, by omega⟩
    · obtain ⟨a, h1, h2⟩ := ih b hb
      exact ⟨a, by omega, h2⟩
/-- a block stands where its word does -/
theorem stand_put (hok : BkOk b) (hw : l.getD k 0 = word b) (ha : b.at_ = k) (hn : b.next = l.getD (k + 1) 0) (hle : (k : Int) + b.size ≤ l.length) : StOk l k ∧ stand l k = b ∧ (szN l k : Int) = b.size := by
  have hsp := split_word hok
  have hb := hok.bounds
  refine ⟨⟨by rw [hw]; exact hd_word hok, by rw [hw, hsp]; exact hle⟩, ?_, ?_⟩
  · unfold stand
    rw [hw, hsp, ← hn, ← ha]
  · unfold szN
    rw [hw, hsp]
    show ((b.size.toNat : Nat) : Int) = b.size
    omega
theorem Seg.put (hok : BkOk b) (hw : l.getD k 0 = word b) (ha : b.at_ = k) (hn : b.next = l.getD (k + 1) 0) (hq : (q : Int) = k + b.size) (hle : q ≤ l.length) : Seg l k [b] q := by
  obtain ⟨h1, h2, h3⟩ := stand_put hok hw ha hn (by omega)
  have hb := hok.bounds
  have e : q = k + szN l k := by omega
  have := Seg.cons (l := l) (k := k) (q := q) (L := []) (by omega) h1 (by rw [← e]; exact .nil hle)
  rw [h2] at this
  exact this
/-- the whole heap -/
theorem all_of_seg (hs : SizeOk l.length) (h : Seg l 128 L l.length) (ha : ¬ Adj L) : allErr l = 0 ∧ allL l = L := by
  have hp : parsed l = some L := parsed_ok.2 ⟨from_chain (h.chain rfl), ha⟩
  have he : allErr l = 0 := by unfold allErr; rw [if_pos hs, hp]; rfl
  exact ⟨he, by rw [allL, if_pos he, hp]; rfl⟩
theorem seg_of_all (h : allErr l = 0) : Seg l 128 (allL l) l.length ∧ ¬ Adj (allL l) := by
  obtain ⟨hs, hp⟩ := allErr_ok h
  obtain ⟨hfr, hadj⟩ := parsed_ok.1 hp
  exact ⟨.of_chain (chain_iff.1 hfr), hadj⟩
end
/-- a part of the heap: what stands before it, it, what stands behind it -/
structure Cut (l : List UInt64) (P M S : List Hb) (p q : Nat) : Prop where
  eq : allL l = P ++ (M ++ S)
  s1 : Seg l 128 P p
  s2 : Seg l p M q
  s3 : Seg l q S l.length
  na : ¬ Adj (P ++ (M ++ S))
theorem Cut.of {l : List UInt64} (h : allErr l = 0) {P M S : List Hb} (e : allL l = P ++ (M ++ S)) : ∃ p q, Cut l P M S p q := by
  obtain ⟨h1, h2⟩ := seg_of_all h
  rw [e] at h1 h2
  obtain ⟨p, a1, a2⟩ := Seg.split h1
  obtain ⟨q, a3, a4⟩ := Seg.split a2
  exact ⟨p, q, e, a1, a3, a4, h2⟩
/-- the part written anew -/
theorem Cut.new {l l' : List UInt64} {P M S N : List Hb} {p q : Nat} (hs : SizeOk l.length) (h : Cut l P M S p q) (hl : l'.length = l.length) (he : ∀ i, 128 ≤ i → i < p ∨ q ≤ i → l'.getD i 0 = l.getD i 0) (hN : Seg l' p N q) (hna : ¬ Adj (P ++ (N ++ S))) :
    allErr l' = 0 ∧ allL l' = P ++ (N ++ S) ∧ Cut l' P N S p q := by
  have b1 := h.s1.le
  have b2 := h.s2.le
  have c1 : Seg l' 128 P p := h.s1.congr hl (fun i h1 h2 => he i h1 (.inl h2))
  have c3 : Seg l' q S l'.length := by rw [hl]; exact h.s3.congr hl (fun i h1 h2 => he i (by omega) (.inr h1))
  have c := c1.append (hN.append c3)
  obtain ⟨a1, a2⟩ := all_of_seg (by rw [hl]; exact hs) c hna
  exact ⟨a1, a2, a2, c1, hN, c3, hna⟩
end Go.Proofs.Ytbfmdbeeiicabaa.L19
namespace Go.Proofs.Ytbfmdbeeiicabaa.L20
open L02 L13 L18
def dropM (m : Mo) (sl g : Int) : Mo := if asked m sl g = 0 then ⟨m.types, m.objs, m.slots.set sl.toNat ⟨g, false, 0⟩⟩ else .nil
/-- a reference to object n -/
def isRef (m : Mo) (o : Ob) (k : Nat) (n : Nat) : Prop := ((ty m.types o).getD k 0).toNat = 3 ∧ (o.fs.getD k 0).toNat = n + 1
instance (m : Mo) (o : Ob) (k n : Nat) : Decidable (isRef m o k n) := inferInstanceAs (Decidable (_ ∧ _))
/-- another slot, or a field of another object, refers to object n -/
def Busy (m : Mo) (sl : Int) (n : Nat) : Prop := (∃ i, i < m.slots.length ∧ (i : Int) ≠ sl ∧ (m.slots.getD i .none).used = true ∧ (m.slots.getD i .none).at_ = n) ∨ ∃ i, i < m.objs.length ∧ i ≠ n ∧ ∃ k, k < (ob m i).fs.length ∧ isRef m (ob m i) k n
instance (m : Mo) (sl : Int) (n : Nat) : Decidable (Busy m sl n) := inferInstanceAs (Decidable ((∃ i, i < m.slots.length ∧ (i : Int) ≠ sl ∧ (m.slots.getD i .none).used = true ∧ (m.slots.getD i .none).at_ = n) ∨ ∃ i, i < m.objs.length ∧ i ≠ n ∧ ∃ k, k < (ob m i).fs.length ∧ isRef m (ob m i) k n))
def freeE (m : Mo) (sl g : Int) : Int := if asked m sl g = 0 then (if Busy m sl (own m sl) then 45 else 0) else asked m sl g
/-- a number behind object n, one lower -/
def lowA (n : Nat) (a : Int) : Int := if (n : Int) < a then a - 1 else a
def lowV (n : Nat) (k : UInt8) (v : UInt64) : UInt64 := if k.toNat = 3 ∧ n + 1 < v.toNat then v - 1 else v
def lowO (m : Mo) (n : Nat) (o : Ob) : Ob := ⟨o.ty, (List.range o.fs.length).map fun i => lowV n ((ty m.types o).getD i 0) (o.fs.getD i 0)⟩
def lowS (n : Nat) (s : Sl) : Sl := if s.used = true then ⟨s.gen, true, lowA n s.at_⟩ else s
def freeM (m : Mo) (sl g : Int) : Mo := if freeE m sl g = 0 then ⟨m.types, (m.objs.map (lowO m (own m sl))).eraseIdx (own m sl), ((m.slots.set sl.toNat ⟨g, false, 0⟩).map (lowS (own m sl)))⟩ else .nil
end Go.Proofs.Ytbfmdbeeiicabaa.L20
namespace Go.Proofs.Ytbfmdbeeiicabaa.L20
open L02 L13 L18
def numV (ns : List Int) (k : UInt8) (v : UInt64) : UInt64 := if k.toNat = 3 ∧ 0 < v.toNat then UInt64.ofNat (ns.getD (v.toNat - 1) 0 + 1).toNat else v
def numO (m : Mo) (ns : List Int) (o : Ob) : Ob := ⟨o.ty, (List.range o.fs.length).map fun i => numV ns ((ty m.types o).getD i 0) (o.fs.getD i 0)⟩
def numN (m : Mo) (ns : List Int) (want k : Nat) : List Ob := ((List.range k).filter fun n => decide (ns.getD n (-2) = (want : Int))).map fun n => numO m ns (ob m n)
def numJ (m : Mo) (ns : List Int) (j : Nat) : List Ob := (List.range j).flatMap fun want => numN m ns want ns.length
def numS (ns : List Int) (s : Sl) : Sl := if s.used = true then ⟨s.gen, true, ns.getD s.at_.toNat 0⟩ else s
def numM (m : Mo) (ns : List Int) : Mo := ⟨m.types, numJ m ns ns.length, m.slots.map (numS ns)⟩
theorem numJ_succ (m : Mo) (ns : List Int) (j : Nat) : numJ m ns (j + 1) = numJ m ns j ++ numN m ns j ns.length := by
  simp [numJ, List.range_succ, List.flatMap_append]
theorem numV_other {ns : List Int} {k : UInt8} {v : UInt64} (h : ¬ (k.toNat = 3 ∧ 0 < v.toNat)) : numV ns k v = v := if_neg h
end Go.Proofs.Ytbfmdbeeiicabaa.L20
namespace Go.Proofs.Ytbfmdbeeiicabaa.L20
open L02 L13 L18
def kidAt (m : Mo) (o : Ob) (i : Nat) : Option Nat := if ((ty m.types o).getD i 0).toNat = 3 ∧ 0 < (o.fs.getD i 0).toNat then some ((o.fs.getD i 0).toNat - 1) else none
def kidsTo (m : Mo) (o : Ob) (p : Nat) : List Nat := (List.range p).filterMap (kidAt m o)
def kids (m : Mo) (n : Nat) : List Nat := kidsTo m (ob m n) (ob m n).fs.length
def rootOf (s : Sl) : Option Nat := if s.used = true then some s.at_.toNat else none
def roots (m : Mo) : List Nat := m.slots.filterMap rootOf
/-- out is what is found, ord has been found, l is to be looked at -/
inductive Rs (m : Mo) : List Nat → List Nat → List Nat → Prop
  | nil (ord : List Nat) : Rs m ord [] ord
  | seen {ord l out : List Nat} {n : Nat} : n ∈ ord → Rs m ord l out → Rs m ord (n :: l) out
  | new {ord l out : List Nat} {n : Nat} : n ∉ ord → Rs m (ord ++ [n]) (kids m n ++ l) out → Rs m ord (n :: l) out
section
variable {m : Mo} {ord l out : List Nat}
theorem Rs.det (h : Rs m ord l out) : ∀ {out'}, Rs m ord l out' → out = out' := by
  induction h with
  | nil ord => intro o h; cases h; rfl
  | seen h1 _ ih => intro o h; cases h with
    | seen _ h => exact ih h
    | new h2 _ => exact absurd h1 h2
  | new h1 _ ih => intro o h; cases h with
    | seen h2 _ => exact absurd h2 h1
    | new _ h => exact ih h
theorem Rs.app (h : Rs m ord l out) : ∀ {a b}, l = a ++ b → ∃ mid, Rs m ord a mid ∧ Rs m mid b out := by
  induction h with
  | nil ord =>
    intro a b h
    obtain ⟨rfl, rfl⟩ := List.append_eq_nil_iff.1 h.symm
    exact ⟨_, .nil _, .nil _⟩
  | @seen ord l out n h1 h2 ih =>
    intro a b h
    cases a with
    | nil => rw [List.nil_append] at h; subst h; exact ⟨_, .nil _, .seen h1 h2⟩
    | cons x a =>
      rw [List.cons_append] at h; injection h with e1 e2; subst e1
      obtain ⟨mid, p1, p2⟩ := ih e2
      exact ⟨mid, .seen h1 p1, p2⟩
  | @new ord l out n h1 h2 ih =>
    intro a b h
    cases a with
    | nil => rw [List.nil_append] at h; subst h; exact ⟨_, .nil _, .new h1 h2⟩
    | cons x a =>
      rw [List.cons_append] at h; injection h with e1 e2; subst e1
      obtain ⟨mid, p1, p2⟩ := ih (a := kids m n ++ a) (b := b) (by rw [e2, List.append_assoc])
      exact ⟨mid, .new h1 p1, p2⟩
theorem Rs.join {mid : List Nat} {a : List Nat} (h : Rs m ord a mid) : ∀ {b out}, Rs m mid b out → Rs m ord (a ++ b) out := by
  induction h with
  | nil ord => intro b out h; exact h
  | seen h1 _ ih => intro b out h; exact .seen h1 (ih h)
  | new h1 _ ih =>
    intro b out h
    have h2 := ih h
    rw [List.append_assoc] at h2
    exact .new h1 h2
theorem Rs.pre (h : Rs m ord l out) : ord <+: out := by
  induction h with
  | nil ord => exact List.prefix_refl _
  | seen _ _ ih => exact ih
  | new _ _ ih => exact (List.prefix_append _ _).trans ih
theorem Rs.nodup (h : Rs m ord l out) : ord.Nodup → out.Nodup := by
  induction h with
  | nil ord => exact id
  | seen _ _ ih => exact ih
  | @new ord l out n h1 _ ih =>
    intro hn
    refine ih (List.nodup_append.2 ⟨hn, by simp, ?_⟩)
    intro x hx y hy e
    rw [List.mem_singleton] at hy
    exact h1 (by rw [← hy, ← e]; exact hx)
theorem Rs.all {p : Nat → Prop} (hk : ∀ n, p n → ∀ k ∈ kids m n, p k) (h : Rs m ord l out) : (∀ n ∈ ord, p n) → (∀ n ∈ l, p n) → ∀ n ∈ out, p n := by
  induction h with
  | nil ord => intro h _; exact h
  | seen _ _ ih => intro h1 h2; exact ih h1 fun n hn => h2 n (List.mem_cons_of_mem _ hn)
  | @new ord l out n _ _ ih =>
    intro h1 h2
    have hpn := h2 n List.mem_cons_self
    refine ih (fun x hx => ?_) fun x hx => ?_
    · rcases List.mem_append.1 hx with h | h
      · exact h1 x h
      · rw [List.mem_singleton.1 h]; exact hpn
    · rcases List.mem_append.1 hx with h | h
      · exact hk n hpn x h
      · exact h2 x (List.mem_cons_of_mem _ h)
theorem Rs.mem (h : Rs m ord l out) : ∀ n ∈ l, n ∈ out := by
  induction h with
  | nil ord => intro n h; cases h
  | seen h1 h2 ih =>
    intro x hx
    rcases List.mem_cons.1 hx with h | h
    · rw [h]; exact h2.pre.subset h1
    · exact ih x h
  | new h1 h2 ih =>
    intro x hx
    rcases List.mem_cons.1 hx with h | h
    · rw [h]; exact h2.pre.subset (List.mem_append_right _ (by simp))
    · exact ih x (List.mem_append_right _ h)
theorem Rs.closed (h : Rs m ord l out) : (∀ n ∈ ord, ∀ k ∈ kids m n, k ∈ ord ∨ k ∈ l) → ∀ n ∈ out, ∀ k ∈ kids m n, k ∈ out := by
  induction h with
  | nil ord =>
    intro h n hn k hk
    rcases h n hn k hk with h | h
    · exact h
    · cases h
  | seen h1 h2 ih =>
    intro h
    refine ih fun x hx k hk => ?_
    rcases h x hx k hk with h | h
    · exact .inl h
    · rcases List.mem_cons.1 h with h | h
      · rw [h]; exact .inl h1
      · exact .inr h
  | new h1 h2 ih =>
    intro h
    refine ih fun x hx k hk => ?_
    rcases List.mem_append.1 hx with hx | hx
    · rcases h x hx k hk with h | h
      · exact .inl (List.mem_append_left _ h)
      · rcases List.mem_cons.1 h with h | h
        · rw [h]; exact .inl (List.mem_append_right _ (by simp))
        · exact .inr (List.mem_append_right _ h)
    · rw [List.mem_singleton.1 hx] at hk
      exact .inr (List.mem_append_left _ hk)
/-- what is found is found in turn -/
theorem nodup_lt {N : Nat} {l : List Nat} (h : l.Nodup) (hl : ∀ n ∈ l, n < N) : l.length ≤ N := by
  have := List.Nodup.length_le_of_subset (l₁ := l) (l₂ := List.range N) h (fun x hx => List.mem_range.2 (hl x hx))
  simpa using this
end
/-- .. in so many steps -/
inductive Rn (m : Mo) : Nat → List Nat → List Nat → List Nat → Prop
  | nil (ord : List Nat) : Rn m 0 ord [] ord
  | seen {ord l out : List Nat} {n d : Nat} : n ∈ ord → Rn m d ord l out → Rn m (d + 1) ord (n :: l) out
  | new {ord l out : List Nat} {n d : Nat} : n ∉ ord → Rn m d (ord ++ [n]) (kids m n ++ l) out → Rn m (d + 1) ord (n :: l) out
theorem Rs.steps {m : Mo} {ord l out : List Nat} (h : Rs m ord l out) : ∃ d, Rn m d ord l out := by
  induction h with
  | nil ord => exact ⟨0, .nil _⟩
  | seen h1 _ ih => obtain ⟨d, h⟩ := ih; exact ⟨d + 1, .seen h1 h⟩
  | new h1 _ ih => obtain ⟨d, h⟩ := ih; exact ⟨d + 1, .new h1 h⟩
theorem Rn.rs {m : Mo} {ord l out : List Nat} {d : Nat} (h : Rn m d ord l out) : Rs m ord l out := by
  induction h with
  | nil ord => exact .nil _
  | seen h1 _ ih => exact .seen h1 ih
  | new h1 _ ih => exact .new h1 ih
theorem Rn.len {m : Mo} {ord l out : List Nat} {d : Nat} (h : Rn m d ord l out) : l.length ≤ d := by
  induction h with
  | nil ord => simp
  | seen h1 _ ih => simp; exact ih
  | new h1 _ ih => simp at ih ⊢; omega
theorem Rn.all {m : Mo} {p : Nat → Prop} (hk : ∀ n, p n → ∀ k ∈ kids m n, p k) {ord l out : List Nat} {d : Nat} (h : Rn m d ord l out) (h1 : ∀ n ∈ ord, p n) (h2 : ∀ n ∈ l, p n) : ∀ n ∈ out, p n := h.rs.all hk h1 h2
theorem Rn.end {m : Mo} {ord out : List Nat} {d : Nat} (h : Rn m d ord [] out) : out = ord := by cases h; rfl
/-- the kids from field p on -/
def kidsFrom (m : Mo) (o : Ob) (p : Nat) : List Nat := ((List.range o.fs.length).drop p).filterMap (kidAt m o)
theorem kidsFrom_step {m : Mo} {o : Ob} {p : Nat} (hp : p < o.fs.length) : kidsFrom m o p = (match kidAt m o p with | none => [] | some c => [c]) ++ kidsFrom m o (p + 1) := by
  have hd : (List.range o.fs.length).drop p = p :: (List.range o.fs.length).drop (p + 1) := by
    rw [List.drop_eq_getElem_cons (by simpa using hp)]; simp
  rw [kidsFrom, hd, List.filterMap_cons]
  cases kidAt m o p <;> rfl
theorem kidsTo_step {m : Mo} {o : Ob} {p : Nat} : kidsTo m o (p + 1) = kidsTo m o p ++ (match kidAt m o p with | none => [] | some c => [c]) := by
  rw [kidsTo, List.range_succ, List.filterMap_append]
  congr 1
  cases h : kidAt m o p <;> simp [h]
/-- the first kids and the others -/
theorem kids_split {m : Mo} {o : Ob} {p : Nat} (hp : p ≤ o.fs.length) : kidsTo m o o.fs.length = kidsTo m o p ++ kidsFrom m o p := by
  rw [kidsTo, kidsTo, kidsFrom, ← List.filterMap_append]
  congr 1
  have := List.take_append_drop p (List.range o.fs.length)
  rw [← this]
  congr 1
  · apply List.ext_getElem?
    intro i
    rw [List.getElem?_take]
    rcases Nat.lt_or_ge i p with h | h
    · rw [if_pos h, List.getElem?_range (by omega), List.getElem?_range h]
    · rw [if_neg (by omega), List.getElem?_eq_none (by simpa using h)]
  · simp [List.drop_append, Nat.min_eq_left hp]
/-- the numbers of what is found -/
def canN (m : Mo) (out : List Nat) : List Int := (List.range m.objs.length).map fun n => if n ∈ out then (out.idxOf n : Int) else -1
def canM (m : Mo) (out : List Nat) : Mo := numM m (canN m out)
end Go.Proofs.Ytbfmdbeeiicabaa.L20
