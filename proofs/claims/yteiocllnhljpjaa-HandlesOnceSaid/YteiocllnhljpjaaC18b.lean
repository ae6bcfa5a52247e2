/- Contracts of slots: reading a word. -/
import Derived.Test.YteiocllnhljpjaaC18
set_option linter.unusedVariables false
set_option linter.unusedSimpArgs false
namespace Go.Proofs.Yteiocllnhljpjaa
open Go.RowKit L01 L02 L18

theorem WordR_any (s : Sl) (w : World) : Calls Try.prog 10 #[slV s] w fun e w' => e = .returned (.tuple #[.int .u64 (word s).toNat, .int .i64 (wordErr s)]) ∧ Below w.heap.size w w' := by
  have B : Below w.heap.size w w := Below.refl _ _
  obtain ⟨x, hx⟩ : ∃ x, x = word s := ⟨_, rfl⟩
  obtain ⟨r, hr⟩ : ∃ r, r = wordErr s := ⟨_, rfl⟩
  rw [← hx, ← hr]
  have CT := fun w => Check18R_any s r hr w
  unfold slV
  by_cases hs : Right s
  · have hr0 : r = 0 := by rw [hr]; exact if_pos hs
    rw [word_ok hs] at hx
    have OT := fun w => OfR_any s x hx hs w
    clear hx hr hs
    subst hr0
    have CT := Lib.hid CT; have OT := Lib.hid OT
    obtain ⟨g, u, a⟩ := s
    go_enter Try.func10, Try.ntmps10
    go_wp2_with fail
    refine calls_gen (fun Wv => Bx Wv (w.heap.size) (23) (#[.int .i64 g, .bool u, .int .i64 a]) ∧ Below w.heap.size w Wv) ⟨((Bx.at_ (by simp))), ((Below.refl _ w).alloc (by simp <;> omega) _)⟩ ?_
    rintro w' ⟨g1, b⟩
    replace B := B.trans (b.mono B.size); clear b
    have c_g1 := g1.cell; have f_g1 := g1.free; have a_g1 := fun o => (g1.alloc o).cell; have d_g1 := fun o o2 => ((g1.alloc o).alloc o2).cell; have e_g1 := fun o => (g1.alloc o).free
    go_wp2_with fail
    refine (CT.out _).mono ?_
    rintro e w' ⟨rfl, b⟩
    try clear c_g1 f_g1 a_g1 d_g1 e_g1
    replace g1 := g1.below b; have c_g1 := g1.cell; have f_g1 := g1.free; have a_g1 := fun o => (g1.alloc o).cell; have d_g1 := fun o o2 => ((g1.alloc o).alloc o2).cell; have e_g1 := fun o => (g1.alloc o).free; replace B := B.trans (b.mono B.size); clear b
    go_wp2_with fail
    refine (OT.out _).mono ?_
    rintro e w' ⟨rfl, b⟩
    try clear c_g1 f_g1 a_g1 d_g1 e_g1
    replace g1 := g1.below b; have c_g1 := g1.cell; have f_g1 := g1.free; have a_g1 := fun o => (g1.alloc o).cell; have d_g1 := fun o o2 => ((g1.alloc o).alloc o2).cell; have e_g1 := fun o => (g1.alloc o).free; replace B := B.trans (b.mono B.size); clear b
    go_wp2
    go_ret2
    exact ⟨rfl, B⟩
  · have hr0 : r = 8 := by rw [hr]; exact if_neg hs
    have hx0 : x = 0 := by rw [hx]; exact if_neg hs
    clear hx hr hs
    subst hr0 hx0
    have CT := Lib.hid CT
    obtain ⟨g, u, a⟩ := s
    go_enter Try.func10, Try.ntmps10
    go_wp2_with fail
    refine calls_gen (fun Wv => Bx Wv (w.heap.size) (23) (#[.int .i64 g, .bool u, .int .i64 a]) ∧ Below w.heap.size w Wv) ⟨((Bx.at_ (by simp))), ((Below.refl _ w).alloc (by simp <;> omega) _)⟩ ?_
    rintro w' ⟨g1, b⟩
    replace B := B.trans (b.mono B.size); clear b
    have c_g1 := g1.cell; have f_g1 := g1.free; have a_g1 := fun o => (g1.alloc o).cell; have d_g1 := fun o o2 => ((g1.alloc o).alloc o2).cell; have e_g1 := fun o => (g1.alloc o).free
    go_wp2_with fail
    refine (CT.out _).mono ?_
    rintro e w' ⟨rfl, b⟩
    try clear c_g1 f_g1 a_g1 d_g1 e_g1
    replace g1 := g1.below b; have c_g1 := g1.cell; have f_g1 := g1.free; have a_g1 := fun o => (g1.alloc o).cell; have d_g1 := fun o o2 => ((g1.alloc o).alloc o2).cell; have e_g1 := fun o => (g1.alloc o).free; replace B := B.trans (b.mono B.size); clear b
    go_wp2
    go_ret2
    exact ⟨rfl, B⟩

theorem spl_int (x : UInt64) (s : Sl) (h : s = spl x) : (x.toNat : Int) / 4294967296 % 2147483648 = s.gen ∧ ((x.toNat : Int) / 9223372036854775808 == 1) = s.used ∧ (x.toNat : Int) % 4294967296 = s.at_ := by
  subst h
  refine ⟨?_, ?_, ?_⟩
  · show _ = ((x.toNat / 4294967296 % 2147483648 : Nat) : Int); omega
  · show _ = decide (x.toNat / 9223372036854775808 = 1)
    rw [Bool.eq_iff_iff, beq_iff_eq, decide_eq_true_iff]; omega
  · show _ = ((x.toNat % 4294967296 : Nat) : Int); omega

set_option maxHeartbeats 1000000 in
theorem Split_any (x : UInt64) (w : World) : Calls Try.prog 11 #[.int .u64 x.toNat] w fun e w' => e = .returned (.tuple #[slV (spl0 x), .int .i64 (splErr x)]) ∧ Below w.heap.size w w' := by
  have B : Below w.heap.size w w := Below.refl _ _
  have hxl := toNat_lt x
  obtain ⟨s, hs⟩ : ∃ s, s = spl x := ⟨_, rfl⟩
  obtain ⟨i1, i2, i3⟩ := spl_int x s hs
  have e1 := and_int (a := (x.toNat : Int) / 4294967296) 31 (by omega) (by omega) 2147483647 (by decide) (by omega)
  have e2 := and_int (a := (x.toNat : Int)) 32 (by omega) (by omega) 4294967295 (by decide) (by omega)
  rw [show ((2 ^ 31 : Nat) : Int) = 2147483648 from rfl, i1] at e1
  rw [show ((2 ^ 32 : Nat) : Int) = 4294967296 from rfl, i3] at e2
  have b1 : 0 ≤ s.gen ∧ s.gen ≤ 2147483647 := by omega
  have b3 : 0 ≤ s.at_ ∧ s.at_ ≤ 4294967295 := by omega
  clear i1 i3
  by_cases hr : Right s
  · have k0 : spl0 x = s := by rw [spl0, ← hs, if_pos hr]
    have k1 : splErr x = 0 := by rw [splErr, ← hs, if_pos hr]
    have RT := fun w => right_any s true (decide_eq_true hr).symm w
    rw [k0, k1]
    have RT := Lib.hid RT; clear hs hr k0 k1
    obtain ⟨g, u, a⟩ := s
    dsimp only at *
    obtain ⟨b1, b2⟩ := b1
    obtain ⟨b3, b4⟩ := b3
    unfold slV
    go_enter Try.func11, Try.ntmps11
    go_wp2_with fail
    refine calls_gen (fun Wv => Bx Wv (w.heap.size) (23) (#[.int .i64 0, .bool false, .int .i64 0]) ∧ Bx Wv (w.heap.size + 1) (23) (#[.int .i64 g, .bool u, .int .i64 a]) ∧ Below w.heap.size w Wv) ⟨(((Bx.at_ (by simp)).alloc _)), ((Bx.at_ (by simp))), (((Below.refl _ w).alloc (by simp <;> omega) _).alloc (by simp <;> omega) _)⟩ ?_
    rintro w' ⟨g0, g1, b⟩
    replace B := B.trans (b.mono B.size); clear b
    have c_g0 := g0.cell; have f_g0 := g0.free; have a_g0 := fun o => (g0.alloc o).cell; have d_g0 := fun o o2 => ((g0.alloc o).alloc o2).cell; have e_g0 := fun o => (g0.alloc o).free
    have c_g1 := g1.cell; have f_g1 := g1.free; have a_g1 := fun o => (g1.alloc o).cell; have d_g1 := fun o o2 => ((g1.alloc o).alloc o2).cell; have e_g1 := fun o => (g1.alloc o).free
    go_wp2_with fail
    refine (RT.out _).mono ?_
    rintro e w' ⟨rfl, b⟩
    try clear c_g0 f_g0 a_g0 d_g0 e_g0
    replace g0 := g0.below b; have c_g0 := g0.cell; have f_g0 := g0.free; have a_g0 := fun o => (g0.alloc o).cell; have d_g0 := fun o o2 => ((g0.alloc o).alloc o2).cell; have e_g0 := fun o => (g0.alloc o).free; try clear c_g1 f_g1 a_g1 d_g1 e_g1
    replace g1 := g1.below b; have c_g1 := g1.cell; have f_g1 := g1.free; have a_g1 := fun o => (g1.alloc o).cell; have d_g1 := fun o o2 => ((g1.alloc o).alloc o2).cell; have e_g1 := fun o => (g1.alloc o).free; replace B := B.trans (b.mono B.size); clear b
    go_wp2
    refine bodyPost_ret (v := .tuple #[.agg #[.int .i64 g, .bool u, .int .i64 a], .int .i64 0]) (by simp [results, Try.results11, go_sem, c_g0, f_g0, a_g0, e_g0, c_g1, f_g1, a_g1, e_g1]) rfl ?_
    refine ⟨rfl, ?_⟩
    (repeat (first | refine Below.setCell ?_ (by first | exact Nat.le_refl _ | (simp <;> omega)) _ | refine Below.alloc ?_ (by first | exact B.size | (have := B.size; simp <;> omega)) _)); exact B
  · have k0 : spl0 x = .none := by rw [spl0, ← hs, if_neg hr]
    have k1 : splErr x = 50 := by rw [splErr, ← hs, if_neg hr]
    have RT := fun w => right_any s false (decide_eq_false hr).symm w
    rw [k0, k1]
    have RT := Lib.hid RT; clear hs hr k0 k1
    obtain ⟨g, u, a⟩ := s
    dsimp only at *
    obtain ⟨b1, b2⟩ := b1
    obtain ⟨b3, b4⟩ := b3
    unfold slV Sl.none
    dsimp only
    go_enter Try.func11, Try.ntmps11
    go_wp2_with fail
    refine calls_gen (fun Wv => Bx Wv (w.heap.size) (23) (#[.int .i64 0, .bool false, .int .i64 0]) ∧ Bx Wv (w.heap.size + 1) (23) (#[.int .i64 g, .bool u, .int .i64 a]) ∧ Below w.heap.size w Wv) ⟨(((Bx.at_ (by simp)).alloc _)), ((Bx.at_ (by simp))), (((Below.refl _ w).alloc (by simp <;> omega) _).alloc (by simp <;> omega) _)⟩ ?_
    rintro w' ⟨g0, g1, b⟩
    replace B := B.trans (b.mono B.size); clear b
    have c_g0 := g0.cell; have f_g0 := g0.free; have a_g0 := fun o => (g0.alloc o).cell; have d_g0 := fun o o2 => ((g0.alloc o).alloc o2).cell; have e_g0 := fun o => (g0.alloc o).free
    have c_g1 := g1.cell; have f_g1 := g1.free; have a_g1 := fun o => (g1.alloc o).cell; have d_g1 := fun o o2 => ((g1.alloc o).alloc o2).cell; have e_g1 := fun o => (g1.alloc o).free
    go_wp2_with fail
    refine (RT.out _).mono ?_
    rintro e w' ⟨rfl, b⟩
    try clear c_g0 f_g0 a_g0 d_g0 e_g0
    replace g0 := g0.below b; have c_g0 := g0.cell; have f_g0 := g0.free; have a_g0 := fun o => (g0.alloc o).cell; have d_g0 := fun o o2 => ((g0.alloc o).alloc o2).cell; have e_g0 := fun o => (g0.alloc o).free; try clear c_g1 f_g1 a_g1 d_g1 e_g1
    replace g1 := g1.below b; have c_g1 := g1.cell; have f_g1 := g1.free; have a_g1 := fun o => (g1.alloc o).cell; have d_g1 := fun o o2 => ((g1.alloc o).alloc o2).cell; have e_g1 := fun o => (g1.alloc o).free; replace B := B.trans (b.mono B.size); clear b
    go_wp2
    refine bodyPost_ret (v := .tuple #[.agg #[.int .i64 0, .bool false, .int .i64 0], .int .i64 50]) (by simp [results, Try.results11, go_sem, c_g0, f_g0, a_g0, e_g0, c_g1, f_g1, a_g1, e_g1]) rfl ?_
    refine ⟨rfl, ?_⟩
    (repeat (first | refine Below.setCell ?_ (by first | exact Nat.le_refl _ | (simp <;> omega)) _ | refine Below.alloc ?_ (by first | exact B.size | (have := B.size; simp <;> omega)) _)); exact B

theorem val_gen (x : UInt64) (s : Sl) (h : s = spl x) : ∃ G A : Nat, s.gen = G ∧ s.at_ = A ∧ G = val x.toNat 32 31 ∧ A = val x.toNat 0 32 ∧ (s.used = true ↔ 1 = val x.toNat 63 1) ∧ G ≤ 2147483647 ∧ A ≤ 4294967295 ∧ (val x.toNat 63 1 < 2) := by
  have hl := toNat_lt x
  subst h
  refine ⟨x.toNat / 4294967296 % 2147483648, x.toNat % 4294967296, rfl, rfl, rfl, ?_, ?_, by omega, by omega, ?_⟩
  · unfold val; simp
  · show decide (x.toNat / 9223372036854775808 = 1) = true ↔ _
    unfold val
    rw [decide_eq_true_iff]; simp only [show (2 : Nat) ^ 63 = 9223372036854775808 from rfl, show (2 : Nat) ^ 1 = 2 from rfl]; omega
  · unfold val; simp only [show (2 : Nat) ^ 1 = 2 from rfl]; omega

set_option maxHeartbeats 1000000 in
theorem SplitR_any (x : UInt64) (w : World) : Calls Try.prog 12 #[.int .u64 x.toNat] w fun e w' => e = .returned (.tuple #[slV (spl0 x), .int .i64 (splErr x)]) ∧ Below w.heap.size w w' := by
  have B : Below w.heap.size w w := Below.refl _ _
  have hxl := toNat_lt x
  obtain ⟨s, hs⟩ : ∃ s, s = spl x := ⟨_, rfl⟩
  obtain ⟨G, A, q1, q2, q3, q4, q5, q6, q7, q8⟩ := val_gen x s hs
  obtain ⟨U, hU⟩ : ∃ U, U = val x.toNat 63 1 := ⟨_, rfl⟩
  rw [← hU] at q5 q8
  have V1 := Value_any x.toNat 32 31 G q3
  have V2 := Value_any x.toNat 63 1 U hU
  have V3 := Value_any x.toNat 0 32 A q4
  have V1 := Lib.hid V1; have V2 := Lib.hid V2; have V3 := Lib.hid V3; clear q3 q4 hU
  obtain ⟨r, hrr⟩ : ∃ r, r = wordErr s := ⟨_, rfl⟩
  have CT := fun w => Check18R_any s r hrr w
  have CT := Lib.hid CT
  obtain ⟨g, u, a⟩ := s
  dsimp only at q1 q2 q5 CT
  subst q1 q2
  have hu : ((U : Int) == 1) = u := by
    rw [Bool.eq_iff_iff, q5, beq_iff_eq]; omega
  by_cases hr : Right ⟨G, u, A⟩
  · have k0 : spl0 x = ⟨G, u, A⟩ := by rw [spl0, ← hs, if_pos hr]
    have k1 : splErr x = 0 := by rw [splErr, ← hs, if_pos hr]
    have k2 : r = 0 := by rw [hrr]; exact if_pos hr
    rw [k0, k1]
    clear hs hr k0 k1 hrr q5
    subst k2
    unfold slV
    dsimp only
    go_enter Try.func12, Try.ntmps12
    go_wp2_with fail
    refine (V1.out _ (by omega) (by omega) (by omega)).mono ?_
    rintro e w' ⟨rfl, rfl⟩
    go_wp2_with fail
    refine (V2.out _ (by omega) (by omega) (by omega)).mono ?_
    rintro e w' ⟨rfl, rfl⟩
    go_wp2_with fail
    refine (V3.out _ (by omega) (by omega) (by omega)).mono ?_
    rintro e w' ⟨rfl, rfl⟩
    go_wp2_with fail
    refine calls_gen (fun Wv => Bx Wv (w.heap.size) (23) (#[.int .i64 0, .bool false, .int .i64 0]) ∧ Bx Wv (w.heap.size + 1) (23) (#[.int .i64 G, .bool u, .int .i64 A]) ∧ Below w.heap.size w Wv) ⟨(((Bx.at_ (by simp)).alloc _)), ((Bx.at_ (by simp))), (((Below.refl _ w).alloc (by simp <;> omega) _).alloc (by simp <;> omega) _)⟩ ?_
    rintro w' ⟨g0, g1, b⟩
    replace B := B.trans (b.mono B.size); clear b
    have c_g0 := g0.cell; have f_g0 := g0.free; have a_g0 := fun o => (g0.alloc o).cell; have d_g0 := fun o o2 => ((g0.alloc o).alloc o2).cell; have e_g0 := fun o => (g0.alloc o).free
    have c_g1 := g1.cell; have f_g1 := g1.free; have a_g1 := fun o => (g1.alloc o).cell; have d_g1 := fun o o2 => ((g1.alloc o).alloc o2).cell; have e_g1 := fun o => (g1.alloc o).free
    go_wp2_with fail
    refine (CT.out _).mono ?_
    rintro e w' ⟨rfl, b⟩
    try clear c_g0 f_g0 a_g0 d_g0 e_g0
    replace g0 := g0.below b; have c_g0 := g0.cell; have f_g0 := g0.free; have a_g0 := fun o => (g0.alloc o).cell; have d_g0 := fun o o2 => ((g0.alloc o).alloc o2).cell; have e_g0 := fun o => (g0.alloc o).free; try clear c_g1 f_g1 a_g1 d_g1 e_g1
    replace g1 := g1.below b; have c_g1 := g1.cell; have f_g1 := g1.free; have a_g1 := fun o => (g1.alloc o).cell; have d_g1 := fun o o2 => ((g1.alloc o).alloc o2).cell; have e_g1 := fun o => (g1.alloc o).free; replace B := B.trans (b.mono B.size); clear b
    go_wp2
    refine bodyPost_ret (v := .tuple #[.agg #[.int .i64 G, .bool u, .int .i64 A], .int .i64 0]) (by simp [results, Try.results12, go_sem, c_g0, f_g0, a_g0, e_g0, c_g1, f_g1, a_g1, e_g1]) rfl ?_
    refine ⟨rfl, ?_⟩
    (repeat (first | refine Below.setCell ?_ (by first | exact Nat.le_refl _ | (simp <;> omega)) _ | refine Below.alloc ?_ (by first | exact B.size | (have := B.size; simp <;> omega)) _)); exact B
  · have k0 : spl0 x = .none := by rw [spl0, ← hs, if_neg hr]
    have k1 : splErr x = 50 := by rw [splErr, ← hs, if_neg hr]
    have k2 : r = 8 := by rw [hrr]; exact if_neg hr
    rw [k0, k1]
    clear hs hr k0 k1 hrr q5
    subst k2
    unfold slV Sl.none
    dsimp only
    go_enter Try.func12, Try.ntmps12
    go_wp2_with fail
    refine (V1.out _ (by omega) (by omega) (by omega)).mono ?_
    rintro e w' ⟨rfl, rfl⟩
    go_wp2_with fail
    refine (V2.out _ (by omega) (by omega) (by omega)).mono ?_
    rintro e w' ⟨rfl, rfl⟩
    go_wp2_with fail
    refine (V3.out _ (by omega) (by omega) (by omega)).mono ?_
    rintro e w' ⟨rfl, rfl⟩
    go_wp2_with fail
    refine calls_gen (fun Wv => Bx Wv (w.heap.size) (23) (#[.int .i64 0, .bool false, .int .i64 0]) ∧ Bx Wv (w.heap.size + 1) (23) (#[.int .i64 G, .bool u, .int .i64 A]) ∧ Below w.heap.size w Wv) ⟨(((Bx.at_ (by simp)).alloc _)), ((Bx.at_ (by simp))), (((Below.refl _ w).alloc (by simp <;> omega) _).alloc (by simp <;> omega) _)⟩ ?_
    rintro w' ⟨g0, g1, b⟩
    replace B := B.trans (b.mono B.size); clear b
    have c_g0 := g0.cell; have f_g0 := g0.free; have a_g0 := fun o => (g0.alloc o).cell; have d_g0 := fun o o2 => ((g0.alloc o).alloc o2).cell; have e_g0 := fun o => (g0.alloc o).free
    have c_g1 := g1.cell; have f_g1 := g1.free; have a_g1 := fun o => (g1.alloc o).cell; have d_g1 := fun o o2 => ((g1.alloc o).alloc o2).cell; have e_g1 := fun o => (g1.alloc o).free
    go_wp2_with fail
    refine (CT.out _).mono ?_
    rintro e w' ⟨rfl, b⟩
    try clear c_g0 f_g0 a_g0 d_g0 e_g0
    replace g0 := g0.below b; have c_g0 := g0.cell; have f_g0 := g0.free; have a_g0 := fun o => (g0.alloc o).cell; have d_g0 := fun o o2 => ((g0.alloc o).alloc o2).cell; have e_g0 := fun o => (g0.alloc o).free; try clear c_g1 f_g1 a_g1 d_g1 e_g1
    replace g1 := g1.below b; have c_g1 := g1.cell; have f_g1 := g1.free; have a_g1 := fun o => (g1.alloc o).cell; have d_g1 := fun o o2 => ((g1.alloc o).alloc o2).cell; have e_g1 := fun o => (g1.alloc o).free; replace B := B.trans (b.mono B.size); clear b
    go_wp2
    refine bodyPost_ret (v := .tuple #[.agg #[.int .i64 0, .bool false, .int .i64 0], .int .i64 50]) (by simp [results, Try.results12, go_sem, c_g0, f_g0, a_g0, e_g0, c_g1, f_g1, a_g1, e_g1]) rfl ?_
    refine ⟨rfl, ?_⟩
    (repeat (first | refine Below.setCell ?_ (by first | exact Nat.le_refl _ | (simp <;> omega)) _ | refine Below.alloc ?_ (by first | exact B.size | (have := B.size; simp <;> omega)) _)); exact B

theorem Word_r (s : Sl) (x : UInt64) (r : Int) (hx : x = word s) (hr : r = wordErr s) (w : World) : Calls Try.prog 9 #[.agg #[.int .i64 s.gen, .bool s.used, .int .i64 s.at_]] w fun e w' => e = .returned (.tuple #[.int .u64 x.toNat, .int .i64 r]) ∧ Below w.heap.size w w' := by
  subst hx hr; exact Word_any s w
theorem WordR_r (s : Sl) (x : UInt64) (r : Int) (hx : x = word s) (hr : r = wordErr s) (w : World) : Calls Try.prog 10 #[.agg #[.int .i64 s.gen, .bool s.used, .int .i64 s.at_]] w fun e w' => e = .returned (.tuple #[.int .u64 x.toNat, .int .i64 r]) ∧ Below w.heap.size w w' := by
  subst hx hr; exact WordR_any s w
theorem Split_r (x : UInt64) (s : Sl) (r : Int) (hx : s = spl0 x) (hr : r = splErr x) (w : World) : Calls Try.prog 11 #[.int .u64 x.toNat] w fun e w' => e = .returned (.tuple #[.agg #[.int .i64 s.gen, .bool s.used, .int .i64 s.at_], .int .i64 r]) ∧ Below w.heap.size w w' := by
  subst hx hr; exact Split_any x w
theorem SplitR_r (x : UInt64) (s : Sl) (r : Int) (hx : s = spl0 x) (hr : r = splErr x) (w : World) : Calls Try.prog 12 #[.int .u64 x.toNat] w fun e w' => e = .returned (.tuple #[.agg #[.int .i64 s.gen, .bool s.used, .int .i64 s.at_], .int .i64 r]) ∧ Below w.heap.size w w' := by
  subst hx hr; exact SplitR_any x w
theorem slot_eql (s t : Sl) (b : Bool) (hb : b = decide (s = t)) (W : World) : (binOp .eql 23 (.agg #[.int .i64 s.gen, .bool s.used, .int .i64 s.at_]) (.agg #[.int .i64 t.gen, .bool t.used, .int .i64 t.at_])).run Try.prog W = .ok (.bool b) W := by
  subst hb
  obtain ⟨g, u, a⟩ := s
  obtain ⟨g', u', a'⟩ := t
  have e : decide ((⟨g, u, a⟩ : Sl) = ⟨g', u', a'⟩) = (g == g' && (u == u' && a == a')) := by
    rw [Bool.eq_iff_iff]; simp
  rw [e]
  cases h : (g == g') <;> cases h2 : (u == u') <;> cases h3 : (a == a') <;> simp [go_sem, h, h2, h3]
theorem slot_neq (s t : Sl) (b : Bool) (hb : b = !decide (s = t)) (W : World) : (binOp .neq 23 (.agg #[.int .i64 s.gen, .bool s.used, .int .i64 s.at_]) (.agg #[.int .i64 t.gen, .bool t.used, .int .i64 t.at_])).run Try.prog W = .ok (.bool b) W := by
  subst hb
  obtain ⟨g, u, a⟩ := s
  obtain ⟨g', u', a'⟩ := t
  have e : decide ((⟨g, u, a⟩ : Sl) = ⟨g', u', a'⟩) = (g == g' && (u == u' && a == a')) := by
    rw [Bool.eq_iff_iff]; simp
  rw [e]
  cases h : (g == g') <;> cases h2 : (u == u') <;> cases h3 : (a == a') <;> simp [go_sem, h, h2, h3]
end Go.Proofs.Yteiocllnhljpjaa
