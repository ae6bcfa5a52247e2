/- Contracts of slots: one word for each. -/
import Derived.Test.YteiocllnhljpjaaC01
import Derived.Test.YteiocllnhljpjaaCalm
import Derived.Test.YteiocllnhljpjaaL18
set_option linter.unusedVariables false
set_option linter.unusedSimpArgs false
namespace Go.Proofs.Yteiocllnhljpjaa
open Go.RowKit L01 L02 L18

def slV (s : Sl) : Value := .agg #[.int .i64 s.gen, .bool s.used, .int .i64 s.at_]

set_option maxHeartbeats 600000 in
theorem right_any (s : Sl) (b : Bool) (hb : b = decide (Right s)) (w : World) : Calls Try.prog 29 #[.agg #[.int .i64 s.gen, .bool s.used, .int .i64 s.at_]] w fun e w' => e = .returned (.bool b) ∧ Below w.heap.size w w' := by
  have HB := Lib.hid hb; clear hb
  obtain ⟨g, u, a⟩ := s
  dsimp only at *
  cases u
  all_goals
    go_enter Try.func29, Try.ntmps29
    go_wp2
    all_goals
      go_ret
      refine ⟨ret_bool ?_, (Below.refl _ _).alloc (Nat.le_refl _) _⟩
      rw [HB.out]
      exact bool_dec (by simp [Right]; try omega)

set_option maxHeartbeats 600000 in
theorem Check18R_any (s : Sl) (r : Int) (hr : r = wordErr s) (w : World) : Calls Try.prog 31 #[.agg #[.int .i64 s.gen, .bool s.used, .int .i64 s.at_]] w fun e w' => e = .returned (.int .i64 r) ∧ Below w.heap.size w w' := by
  have HB := Lib.hid hr; clear hr
  obtain ⟨g, u, a⟩ := s
  dsimp only at *
  cases u
  all_goals
    go_enter Try.func31, Try.ntmps31
    go_wp2
    all_goals
      go_ret
      refine ⟨ret_int ?_, (Below.refl _ _).alloc (Nat.le_refl _) _⟩
      rw [HB.out]
      try simp only [Bool.not_eq_true', Bool.not_eq_false', decide_eq_true_eq, decide_eq_false_iff_not, beq_eq_false_iff_ne, beq_iff_eq, ne_eq] at *
      first
      | exact (if_pos (by simp [Right]; try omega)).symm
      | exact (if_neg (by simp [Right]; try omega)).symm

set_option maxHeartbeats 600000 in
theorem pack_any (s : Sl) (x : UInt64) (hx : x = pk s) (hs : Right s) (w : World) : Calls Try.prog 30 #[.agg #[.int .i64 s.gen, .bool s.used, .int .i64 s.at_]] w fun e w' => e = .returned (.int .u64 x.toNat) ∧ Below w.heap.size w w' := by
  have hn := pk_nat hs
  rw [← hx] at hn
  obtain ⟨h1, h2, h3, h4⟩ := hs
  clear hx
  obtain ⟨g, u, a⟩ := s
  dsimp only at *
  cases u
  · have h5 := h3 rfl
    subst h5
    have e1 := or_int (a := 0) (b := g * 4294967296) 32 g.toNat (by omega) (by decide) (by omega) (by omega) (by omega)
    rw [pkN_f ⟨h1, h2, h3, h4⟩ rfl] at hn
    have HN := Lib.hid hn; clear hn h3 h4
    go_enter Try.func30, Try.ntmps30
    go_wp2
    go_ret
    exact ⟨ret_int (by have := HN.out; omega), (Below.refl _ _).alloc (Nat.le_refl _) _⟩
  · obtain ⟨h5, h6, h7⟩ := h4 rfl
    have e1 := or_int (a := a) (b := g * 4294967296) 32 g.toNat (by omega) (by simp; omega) (by omega) (by omega) (by omega)
    have e2 := or_int (a := a + g * 4294967296) (b := 9223372036854775808) 63 1 (by omega) (by simp; omega) (by decide) (by omega) (by omega)
    rw [pkN_t rfl] at hn
    have HN := Lib.hid hn; clear hn h3 h4
    go_enter Try.func30, Try.ntmps30
    go_wp2
    go_ret
    exact ⟨ret_int (by have := HN.out; omega), (Below.refl _ _).alloc (Nat.le_refl _) _⟩

theorem Word_any (s : Sl) (w : World) : Calls Try.prog 9 #[slV s] w fun e w' => e = .returned (.tuple #[.int .u64 (word s).toNat, .int .i64 (wordErr s)]) ∧ Below w.heap.size w w' := by
  by_cases hs : Right s
  · obtain ⟨x, hx⟩ : ∃ x, x = word s := ⟨_, rfl⟩
    obtain ⟨r, hr⟩ : ∃ r, r = wordErr s := ⟨_, rfl⟩
    rw [← hx, ← hr]
    have hr0 : r = 0 := by rw [hr]; exact if_pos hs
    rw [word_ok hs] at hx
    have HX := Lib.hid hx; have HR := Lib.hid hr0; have HS := Lib.hid hs; clear hx hr hr0 hs
    unfold slV
    have RT := fun w => right_any s true (decide_eq_true HS.out).symm w
    have PT := fun w => pack_any s x HX.out HS.out w
    have RT := Lib.hid RT; have PT := Lib.hid PT
    obtain ⟨g, u, a⟩ := s
    have B : Below w.heap.size w w := Below.refl _ _
    go_enter Try.func9, Try.ntmps9
    go_wp2_with fail
    refine calls_gen (fun Wv => Bx Wv (w.heap.size) (23) (#[.int .i64 g, .bool u, .int .i64 a]) ∧ Below w.heap.size w Wv) ⟨((Bx.at_ (by simp))), ((Below.refl _ w).alloc (by simp <;> omega) _)⟩ ?_
    rintro w' ⟨g1, b⟩
    replace B := B.trans (b.mono B.size); clear b
    have c_g1 := g1.cell; have f_g1 := g1.free; have a_g1 := fun o => (g1.alloc o).cell; have d_g1 := fun o o2 => ((g1.alloc o).alloc o2).cell; have e_g1 := fun o => (g1.alloc o).free
    go_wp2_with fail
    refine (RT.out _).mono ?_
    rintro e w' ⟨rfl, b⟩
    try clear c_g1 f_g1 a_g1 d_g1 e_g1
    replace g1 := g1.below b; have c_g1 := g1.cell; have f_g1 := g1.free; have a_g1 := fun o => (g1.alloc o).cell; have d_g1 := fun o o2 => ((g1.alloc o).alloc o2).cell; have e_g1 := fun o => (g1.alloc o).free; replace B := B.trans (b.mono B.size); clear b
    go_wp2_with fail
    refine (PT.out _).mono ?_
    rintro e w' ⟨rfl, b⟩
    try clear c_g1 f_g1 a_g1 d_g1 e_g1
    replace g1 := g1.below b; have c_g1 := g1.cell; have f_g1 := g1.free; have a_g1 := fun o => (g1.alloc o).cell; have d_g1 := fun o o2 => ((g1.alloc o).alloc o2).cell; have e_g1 := fun o => (g1.alloc o).free; replace B := B.trans (b.mono B.size); clear b
    go_wp2
    go_ret2
    exact ⟨by rw [HR.out]; rfl, B⟩
  · obtain ⟨r, hr⟩ : ∃ r, r = wordErr s := ⟨_, rfl⟩
    rw [← hr, show word s = 0 from if_neg hs]
    have hr0 : r = 8 := by rw [hr]; exact if_neg hs
    have HR := Lib.hid hr0; have HS := Lib.hid hs; clear hr hr0 hs
    unfold slV
    have RT := fun w => right_any s false (decide_eq_false HS.out).symm w
    have RT := Lib.hid RT
    obtain ⟨g, u, a⟩ := s
    have B : Below w.heap.size w w := Below.refl _ _
    go_enter Try.func9, Try.ntmps9
    go_wp2_with fail
    refine calls_gen (fun Wv => Bx Wv (w.heap.size) (23) (#[.int .i64 g, .bool u, .int .i64 a]) ∧ Below w.heap.size w Wv) ⟨((Bx.at_ (by simp))), ((Below.refl _ w).alloc (by simp <;> omega) _)⟩ ?_
    rintro w' ⟨g1, b⟩
    replace B := B.trans (b.mono B.size); clear b
    have c_g1 := g1.cell; have f_g1 := g1.free; have a_g1 := fun o => (g1.alloc o).cell; have d_g1 := fun o o2 => ((g1.alloc o).alloc o2).cell; have e_g1 := fun o => (g1.alloc o).free
    go_wp2_with fail
    refine (RT.out _).mono ?_
    rintro e w' ⟨rfl, b⟩
    try clear c_g1 f_g1 a_g1 d_g1 e_g1
    replace g1 := g1.below b; have c_g1 := g1.cell; have f_g1 := g1.free; have a_g1 := fun o => (g1.alloc o).cell; have d_g1 := fun o o2 => ((g1.alloc o).alloc o2).cell; have e_g1 := fun o => (g1.alloc o).free; replace B := B.trans (b.mono B.size); clear b
    go_wp2
    go_ret2
    exact ⟨by rw [HR.out]; rfl, B⟩

theorem OfR_any (s : Sl) (x : UInt64) (hx : x = pk s) (hs : Right s) (w : World) : Calls Try.prog 32 #[.agg #[.int .i64 s.gen, .bool s.used, .int .i64 s.at_]] w fun e w' => e = .returned (.int .u64 x.toNat) ∧ Below w.heap.size w w' := by
  have hn := pk_nat hs
  rw [← hx] at hn
  obtain ⟨h1, h2, h3, h4⟩ := hs
  clear hx
  obtain ⟨g, u, a⟩ := s
  have h1 : 0 ≤ g := h1
  have h2 : g ≤ 2147483647 := h2
  obtain ⟨G, rfl⟩ := Int.eq_ofNat_of_zero_le h1
  dsimp only at *
  have B : Below w.heap.size w w := Below.refl _ _
  cases u
  · have h5 := h3 rfl
    subst h5
    rw [pkN_f ⟨h1, h2, h3, h4⟩ rfl] at hn
    have w1 := With_any 0 0 32 0 0 (by decide)
    have w2 := With_any 0 32 31 G (G * 4294967296) (by unfold wth; omega)
    have HW1 := Lib.hid w1; have HW2 := Lib.hid w2; clear w1 w2
    have HN := Lib.hid hn; clear hn h3 h4
    go_enter Try.func32, Try.ntmps32
    go_wp2_with fail
    refine calls_gen (fun Wv => Bx Wv (w.heap.size) (23) (#[.int .i64 G, .bool false, .int .i64 0]) ∧ Below w.heap.size w Wv) ⟨((Bx.at_ (by simp))), ((Below.refl _ w).alloc (by simp <;> omega) _)⟩ ?_
    rintro w' ⟨g1, b⟩
    replace B := B.trans (b.mono B.size); clear b
    have c_g1 := g1.cell; have f_g1 := g1.free; have a_g1 := fun o => (g1.alloc o).cell; have d_g1 := fun o o2 => ((g1.alloc o).alloc o2).cell; have e_g1 := fun o => (g1.alloc o).free
    refine (HW1.out _ (by omega) (by omega) (by omega) (by omega)).mono ?_
    rintro e w' ⟨rfl, rfl⟩
    go_wp2_with fail
    refine (HW2.out _ (by omega) (by omega) (by omega) (by omega)).mono ?_
    rintro e w' ⟨rfl, rfl⟩
    go_wp2
    go_ret
    exact ⟨ret_int (by have := HN.out; simp at this; omega), B⟩
  · obtain ⟨h5, h6, h7⟩ := h4 rfl
    obtain ⟨A, rfl⟩ := Int.eq_ofNat_of_zero_le (show 0 ≤ a by omega)
    rw [pkN_t rfl] at hn
    have w1 := With_any 0 0 32 A A (by unfold wth; omega)
    have w2 := With_any A 32 31 G (A + G * 4294967296) (by unfold wth; omega)
    have w3 := With_any (A + G * 4294967296) 63 1 1 (A + G * 4294967296 + 9223372036854775808) (by unfold wth; omega)
    have HW1 := Lib.hid w1; have HW2 := Lib.hid w2; have HW3 := Lib.hid w3; clear w1 w2 w3
    have HN := Lib.hid hn; clear hn h3 h4
    go_enter Try.func32, Try.ntmps32
    go_wp2_with fail
    refine calls_gen (fun Wv => Bx Wv (w.heap.size) (23) (#[.int .i64 G, .bool true, .int .i64 A]) ∧ Below w.heap.size w Wv) ⟨((Bx.at_ (by simp))), ((Below.refl _ w).alloc (by simp <;> omega) _)⟩ ?_
    rintro w' ⟨g1, b⟩
    replace B := B.trans (b.mono B.size); clear b
    have c_g1 := g1.cell; have f_g1 := g1.free; have a_g1 := fun o => (g1.alloc o).cell; have d_g1 := fun o o2 => ((g1.alloc o).alloc o2).cell; have e_g1 := fun o => (g1.alloc o).free
    refine (HW1.out _ (by omega) (by omega) (by omega) (by omega)).mono ?_
    rintro e w' ⟨rfl, rfl⟩
    go_wp2_with fail
    refine (HW2.out _ (by omega) (by omega) (by omega) (by omega)).mono ?_
    rintro e w' ⟨rfl, rfl⟩
    go_wp2_with fail
    refine (HW3.out _ (by omega) (by omega) (by omega) (by omega)).mono ?_
    rintro e w' ⟨rfl, rfl⟩
    go_wp2
    go_ret
    exact ⟨ret_int (by have := HN.out; simp at this; omega), B⟩
end Go.Proofs.Yteiocllnhljpjaa
