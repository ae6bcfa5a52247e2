/- The walk of the law HandlesOthers. -/
import Derived.Test.YteiocllnhljpjaaC18k
set_option linter.unusedVariables false
set_option linter.unusedSimpArgs false
namespace Go.Proofs.Yteiocllnhljpjaa
open Go.RowKit L01 L02 L18

set_option maxRecDepth 100000 in
set_option maxHeartbeats 8000000 in
theorem HandlesOthers_walk (v0 : Value) (l : List UInt64) (sl g a : Int) (w : World) (h0 : Words w v0 l) (f1 : -9223372036854775808 ≤ sl ∧ sl ≤ 9223372036854775807) (f2 : -9223372036854775808 ≤ g ∧ g ≤ 9223372036854775807) (f3 : -9223372036854775808 ≤ a ∧ a ≤ 9223372036854775807) :
    Calls Try.prog 8 #[v0, .agg #[.int .i64 sl, .int .i64 g], .int .i64 a] w fun e w' => e = .returned (.bool true) ∧ Below w.heap.size w w' := by
  clear f1 f2 f3
  have B : Below w.heap.size w w := Below.refl _ _
  have H := Lib.hid h0; clear h0
  by_cases hbig : 2100 < l.length
  · skip
    go_enter Try.func8, Try.ntmps8
    go_upto_region 1 with (fail)
    refine wp_gen (fun Wv => Bx Wv (w.heap.size) (39) (#[.int .i64 sl, .int .i64 g]) ∧ Below w.heap.size w Wv) ⟨((Bx.at_ (by simp))), ((Below.refl _ w).alloc (by simp <;> omega) _)⟩ ?_
    rintro w' ⟨g4, b⟩
    replace B := B.trans (b.mono B.size); clear b
    have c_g4 := g4.cell; have f_g4 := g4.free; have a_g4 := fun o => (g4.alloc o).cell; have d_g4 := fun o o2 => ((g4.alloc o).alloc o2).cell; have e_g4 := fun o => (g4.alloc o).free
    go_wp2_with fail
    refine (alive18_any _).mono ?_
    rintro e w' ⟨rfl, b⟩
    try clear c_g4 f_g4 a_g4 d_g4 e_g4
    replace g4 := g4.below b; have c_g4 := g4.cell; have f_g4 := g4.free; have a_g4 := fun o => (g4.alloc o).cell; have d_g4 := fun o o2 => ((g4.alloc o).alloc o2).cell; have e_g4 := fun o => (g4.alloc o).free; replace B := B.trans (b.mono B.size); clear b
    go_wp2_with fail
    refine (Great_any _ _ _ (H.out.below B)).mono ?_
    rw [decide_eq_true hbig]
    rintro e w' ⟨rfl, rfl⟩
    go_wp2
    go_ret
    exact ⟨rfl, B⟩
  have CT := fun w h => CheckR_any v0 l w h
  by_cases hs : SizeOk l.length
  rotate_left
  · rw [chk_no hs] at CT
    have HC := Lib.hid CT; clear CT
    go_enter Try.func8, Try.ntmps8
    go_upto_region 1 with (fail)
    refine wp_gen (fun Wv => Bx Wv (w.heap.size) (39) (#[.int .i64 sl, .int .i64 g]) ∧ Below w.heap.size w Wv) ⟨((Bx.at_ (by simp))), ((Below.refl _ w).alloc (by simp <;> omega) _)⟩ ?_
    rintro w' ⟨g4, b⟩
    replace B := B.trans (b.mono B.size); clear b
    have c_g4 := g4.cell; have f_g4 := g4.free; have a_g4 := fun o => (g4.alloc o).cell; have d_g4 := fun o o2 => ((g4.alloc o).alloc o2).cell; have e_g4 := fun o => (g4.alloc o).free
    go_wp2_with fail
    refine (alive18_any _).mono ?_
    rintro e w' ⟨rfl, b⟩
    try clear c_g4 f_g4 a_g4 d_g4 e_g4
    replace g4 := g4.below b; have c_g4 := g4.cell; have f_g4 := g4.free; have a_g4 := fun o => (g4.alloc o).cell; have d_g4 := fun o o2 => ((g4.alloc o).alloc o2).cell; have e_g4 := fun o => (g4.alloc o).free; replace B := B.trans (b.mono B.size); clear b
    go_wp2_with fail
    refine (Great_any _ _ _ (H.out.below B)).mono ?_
    rw [decide_eq_false hbig]
    rintro e w' ⟨rfl, rfl⟩
    go_wp2_with fail
    refine (HC.out _ (H.out.below B)).mono ?_
    rintro e w' ⟨rfl, rfl⟩
    go_wp2
    go_ret
    exact ⟨rfl, B⟩
  rw [chk_ok hs] at CT
  have HC := Lib.hid CT; clear CT
  by_cases ha : 128 ≤ a ∧ a < 2048
  rotate_left
  · have hcase : a < 128 ∨ 128 ≤ a ∧ 2048 ≤ a := by omega
    clear ha hs
    rcases hcase with a1 | ⟨a1, a2⟩
    all_goals
      go_enter Try.func8, Try.ntmps8
      go_upto_region 1 with (fail)
      refine wp_gen (fun Wv => Bx Wv (w.heap.size) (39) (#[.int .i64 sl, .int .i64 g]) ∧ Below w.heap.size w Wv) ⟨((Bx.at_ (by simp))), ((Below.refl _ w).alloc (by simp <;> omega) _)⟩ ?_
      rintro w' ⟨g4, b⟩
      replace B := B.trans (b.mono B.size); clear b
      have c_g4 := g4.cell; have f_g4 := g4.free; have a_g4 := fun o => (g4.alloc o).cell; have d_g4 := fun o o2 => ((g4.alloc o).alloc o2).cell; have e_g4 := fun o => (g4.alloc o).free
      go_wp2_with fail
      refine (alive18_any _).mono ?_
      rintro e w' ⟨rfl, b⟩
      try clear c_g4 f_g4 a_g4 d_g4 e_g4
      replace g4 := g4.below b; have c_g4 := g4.cell; have f_g4 := g4.free; have a_g4 := fun o => (g4.alloc o).cell; have d_g4 := fun o o2 => ((g4.alloc o).alloc o2).cell; have e_g4 := fun o => (g4.alloc o).free; replace B := B.trans (b.mono B.size); clear b
      go_wp2_with fail
      refine (Great_any _ _ _ (H.out.below B)).mono ?_
      rw [decide_eq_false hbig]
      rintro e w' ⟨rfl, rfl⟩
      go_wp2_with fail
      refine (HC.out _ (H.out.below B)).mono ?_
      rintro e w' ⟨rfl, rfl⟩
      go_wp2
      go_ret
      exact ⟨rfl, B⟩
  obtain ⟨a1, a2⟩ := ha
  by_cases h0 : openErr l = 0
  rotate_left
  · obtain ⟨oe, hoe⟩ : ∃ oe, oe = openErr l := ⟨_, rfl⟩
    have hne : (oe != 0) = true := by rw [bne_iff_ne, hoe]; exact h0
    have AT := fun v w h => All18_any v l _ oe rfl hoe w h
    have HA := Lib.hid AT
    clear AT h0 hoe hs
    go_enter Try.func8, Try.ntmps8
    go_upto_region 1 with (fail)
    refine wp_gen (fun Wv => Bx Wv (w.heap.size) (39) (#[.int .i64 sl, .int .i64 g]) ∧ Below w.heap.size w Wv) ⟨((Bx.at_ (by simp))), ((Below.refl _ w).alloc (by simp <;> omega) _)⟩ ?_
    rintro w' ⟨g4, b⟩
    replace B := B.trans (b.mono B.size); clear b
    have c_g4 := g4.cell; have f_g4 := g4.free; have a_g4 := fun o => (g4.alloc o).cell; have d_g4 := fun o o2 => ((g4.alloc o).alloc o2).cell; have e_g4 := fun o => (g4.alloc o).free
    go_wp2_with fail
    refine (alive18_any _).mono ?_
    rintro e w' ⟨rfl, b⟩
    try clear c_g4 f_g4 a_g4 d_g4 e_g4
    replace g4 := g4.below b; have c_g4 := g4.cell; have f_g4 := g4.free; have a_g4 := fun o => (g4.alloc o).cell; have d_g4 := fun o o2 => ((g4.alloc o).alloc o2).cell; have e_g4 := fun o => (g4.alloc o).free; replace B := B.trans (b.mono B.size); clear b
    go_wp2_with fail
    refine (Great_any _ _ _ (H.out.below B)).mono ?_
    rw [decide_eq_false hbig]
    rintro e w' ⟨rfl, rfl⟩
    go_wp2_with fail
    refine (HC.out _ (H.out.below B)).mono ?_
    rintro e w' ⟨rfl, rfl⟩
    go_wp2_with fail
    refine (HA.out _ _ (H.out.below B)).mono ?_
    rintro e w' ⟨xl, E, rfl, o1, b⟩
    try clear c_g4 f_g4 a_g4 d_g4 e_g4
    replace g4 := g4.below b; have c_g4 := g4.cell; have f_g4 := g4.free; have a_g4 := fun o => (g4.alloc o).cell; have d_g4 := fun o o2 => ((g4.alloc o).alloc o2).cell; have e_g4 := fun o => (g4.alloc o).free; replace B := B.trans (b.mono B.size); clear b
    go_wp2
    go_ret
    exact ⟨rfl, B⟩
  have AT := fun v w h => All18_any v l (slots l) 0 (all_ok h0).symm h0.symm w h
  have HA := Lib.hid AT
  have hL16 := slots16 h0
  obtain ⟨ne, hne⟩ : ∃ r, r = L18.newErr l a := ⟨_, rfl⟩
  obtain ⟨s1, k1⟩ : ∃ r, r = newSlot l a := ⟨_, rfl⟩
  obtain ⟨s2, k2⟩ : ∃ r, r = newGen l a := ⟨_, rfl⟩
  obtain ⟨s3, k3⟩ : ∃ r, r = newAt l a := ⟨_, rfl⟩
  obtain ⟨s4, k4⟩ : ∃ r, r = newVal l a := ⟨_, rfl⟩
  have NT := fun v w h => New18_any v l a s1 s2 s3 s4 ne k1 k2 k3 k4 hne w h
  have HN := Lib.hid NT
  obtain ⟨d1, k6⟩ : ∃ r, r = dropAt l sl g := ⟨_, rfl⟩
  obtain ⟨d2, k7⟩ : ∃ r, r = dropVal l sl g := ⟨_, rfl⟩
  obtain ⟨de, k8⟩ : ∃ r, r = resErr l sl g := ⟨_, rfl⟩
  have DT := fun v w h => Drop18_any v l sl g d1 d2 de k6 k7 k8 w h
  have HD := Lib.hid DT
  have HL16 := Lib.hid hL16
  -- what Drop brings
  have D1 : de = 0 → ∃ j : Nat, j < 16 ∧ sl = (j : Int) ∧ d1 = 112 + (j : Int) ∧ openErr (l.set (112 + j) d2) = 0 ∧ (∀ i : Nat, (i : Int) ≠ sl → (slots l)[i]? = (slots (l.set (112 + j) d2))[i]?) ∧ resErr (l.set (112 + j) d2) sl g = 28 := by
    intro h
    have hr := k8.symm.trans h
    obtain ⟨_, j, s, p1, p2, p3, p4, p5, p6, p7⟩ := resErr_ok hr
    have e1 : d1 = 112 + (j : Int) := by rw [k6, dropAt, if_pos hr, p2]
    have e2 : d2 = pk ⟨g, false, 0⟩ := by rw [k7, dropVal, if_pos hr]
    have hR : Right ⟨g, false, 0⟩ := (drop_right h0 (by rw [resErr, if_pos h0] at hr; exact hr)).1
    have e3 : spl d2 = ⟨g, false, 0⟩ := by rw [e2, spl_pk hR]
    have e4 : openErr (l.set (112 + j) d2) = 0 := openErr_set h0 p1 (by rw [e3]; exact hR)
    refine ⟨j, p1, p2, e1, e4, fun i hi => (set_ne p1 (by rw [p2] at hi; omega)).symm, ?_⟩
    have := (resErr_at e4 (set_at h0 p1) g).1
    rw [e3] at this
    rw [p2, this, if_neg (by simp)]
  have N1 : ne = 0 → ∃ (k : Nat) (s : Sl), k < 16 ∧ (slots l)[k]? = some s ∧ 0 ≤ s.gen ∧ s.gen ≤ 2147483647 ∧ s1 = (k : Int) ∧ s2 = s.gen + 1 ∧ s3 = 112 + (k : Int) ∧ openErr (l.set (112 + k) s4) = 0 ∧ (∀ i : Nat, (i : Int) ≠ (k : Int) → (slots l)[i]? = (slots (l.set (112 + k) s4))[i]?) ∧ resErr (l.set (112 + k) s4) (k : Int) (s.gen + 1) = 0 ∧ res (l.set (112 + k) s4) (k : Int) (s.gen + 1) = a ∧
      ∀ i t, i < k → (slots l)[i]? = some t → ¬ (t.used = false ∧ t.gen ≠ 2147483647) := by
    intro h
    obtain ⟨k, s, p1, p2, p3, p4, p5, p6, q1, q2, q3, q4, q5⟩ := new_spec (hne.symm.trans h)
    have e3 : spl s4 = ⟨s.gen + 1, true, a⟩ := by rw [k4, q4, spl_pk p6]
    have e4 : openErr (l.set (112 + k) s4) = 0 := openErr_set h0 p1 (by rw [e3]; exact p6)
    have e5 := resErr_at e4 (set_at (x := s4) h0 p1) (s.gen + 1)
    rw [e3] at e5
    exact ⟨k, s, p1, p2, p5.1, p5.2.1, k1.trans q1, k2.trans q2, k3.trans q3, e4, fun i hi => (set_ne p1 (by omega)).symm, by rw [e5.1, if_pos ⟨rfl, rfl⟩], e5.2 rfl rfl, q5⟩
  have HGEN := Lib.hid (gen_le h0)
  have HSZ := Lib.hid hs
  clear AT NT DT hL16 h0 hs k1 k2 k3 k4 k6 k7 k8 hne
  have c1 : ne = 0 ∨ (ne == 0) = false := by by_cases h : ne = 0; exact .inl h; exact .inr (by rw [beq_eq_false_iff_ne]; exact h)
  have c2 : de = 0 ∨ (de != 0) = true := by by_cases h : de = 0; exact .inl h; exact .inr (by rw [bne_iff_ne]; exact h)
  rcases c1 with rfl | hn0
  · obtain ⟨k, s, p1, p2, p3, p4, rfl, rfl, rfl, p5, p6, p7, p8, p9⟩ := N1 rfl
    have Q0 := Lib.hid p2; have Q1 := Lib.hid p5; have Q2 := Lib.hid p6; have Q3 := Lib.hid p7; have Q4 := Lib.hid p8; have Q5 := Lib.hid p9
    clear p2 p5 p6 p7 p8 p9 N1
    rcases c2 with rfl | hd0
    · skip
      obtain ⟨j2, z1, rfl, rfl, z2, z3, z4⟩ := D1 rfl
      have Z1 := Lib.hid z2; have Z2 := Lib.hid z3; have Z3 := Lib.hid z4
      clear z2 z3 z4 D1
      go_enter Try.func8, Try.ntmps8
      go_upto_region 1 with (fail)
      refine wp_gen (fun Wv => Bx Wv (w.heap.size) (39) (#[.int .i64 (j2 : Int), .int .i64 g]) ∧ Below w.heap.size w Wv) ⟨((Bx.at_ (by simp))), ((Below.refl _ w).alloc (by simp <;> omega) _)⟩ ?_
      rintro wa1 ⟨g4, b⟩
      replace B := B.trans (b.mono B.size); clear b
      have c_g4 := g4.cell; have f_g4 := g4.free; have a_g4 := fun o => (g4.alloc o).cell; have d_g4 := fun o o2 => ((g4.alloc o).alloc o2).cell; have e_g4 := fun o => (g4.alloc o).free
      go_wp2_with fail
      refine (alive18_any _).mono ?_
      rintro e wa2 ⟨rfl, b⟩
      try clear c_g4 f_g4 a_g4 d_g4 e_g4
      replace g4 := g4.below b; have c_g4 := g4.cell; have f_g4 := g4.free; have a_g4 := fun o => (g4.alloc o).cell; have d_g4 := fun o o2 => ((g4.alloc o).alloc o2).cell; have e_g4 := fun o => (g4.alloc o).free; replace B := B.trans (b.mono B.size); clear b
      go_wp2_with fail
      refine (Great_any _ _ _ (H.out.below B)).mono ?_
      rw [decide_eq_false hbig]
      rintro e w' ⟨rfl, rfl⟩
      go_wp2_with fail
      refine (HC.out _ (H.out.below B)).mono ?_
      rintro e w' ⟨rfl, rfl⟩
      go_wp2_with fail
      refine (HA.out _ _ (H.out.below B)).mono ?_
      rintro e wa3 ⟨xl, E, rfl, o1, b⟩
      try clear c_g4 f_g4 a_g4 d_g4 e_g4
      replace g4 := g4.below b; have c_g4 := g4.cell; have f_g4 := g4.free; have a_g4 := fun o => (g4.alloc o).cell; have d_g4 := fun o o2 => ((g4.alloc o).alloc o2).cell; have e_g4 := fun o => (g4.alloc o).free; replace B := B.trans (b.mono B.size); clear b
      have B1 : Below wa3.heap.size wa3 wa3 := Below.refl _ _
      have HO := Lib.hid o1; clear o1
      have l1 := Rd.len HO.out.rd Try.underlying42
      rw [HL16.out] at l1
      go_wp2_with fail
      refine (HN.out _ _ (H.out.below B)).mono ?_
      rintro e wa4 ⟨rfl, b⟩
      try clear c_g4 f_g4 a_g4 d_g4 e_g4
      replace g4 := g4.below b; have c_g4 := g4.cell; have f_g4 := g4.free; have a_g4 := fun o => (g4.alloc o).cell; have d_g4 := fun o o2 => ((g4.alloc o).alloc o2).cell; have e_g4 := fun o => (g4.alloc o).free; replace B1 := B1.trans (b.mono B1.size); replace B := B.trans (b.mono B.size); clear b
      have hz4 := B.size; have hz5 := B1.size
      go_wp2_with fail
      refine calls_gen (fun Wv => Bx Wv (wa4.heap.size) (39) (#[.int .i64 k, .int .i64 (s.gen + 1)]) ∧ Bx Wv (wa4.heap.size + 1) (52) (#[.int .i64 (112 + k), .int .u64 s4.toNat]) ∧ Below wa4.heap.size wa4 Wv) ⟨(((Bx.at_ (by simp)).alloc _)), ((Bx.at_ (by simp))), (((Below.refl _ wa4).alloc (by simp <;> omega) _).alloc (by simp <;> omega) _)⟩ ?_
      rintro wa5 ⟨g10, g11, b⟩
      try clear c_g4 f_g4 a_g4 d_g4 e_g4
      replace g4 := g4.below b; have c_g4 := g4.cell; have f_g4 := g4.free; have a_g4 := fun o => (g4.alloc o).cell; have d_g4 := fun o o2 => ((g4.alloc o).alloc o2).cell; have e_g4 := fun o => (g4.alloc o).free; replace B1 := B1.trans (b.mono B1.size); replace B := B.trans (b.mono B.size); clear b
      have c_g10 := g10.cell; have f_g10 := g10.free; have a_g10 := fun o => (g10.alloc o).cell; have d_g10 := fun o o2 => ((g10.alloc o).alloc o2).cell; have e_g10 := fun o => (g10.alloc o).free
      have c_g11 := g11.cell; have f_g11 := g11.free; have a_g11 := fun o => (g11.alloc o).cell; have d_g11 := fun o o2 => ((g11.alloc o).alloc o2).cell; have e_g11 := fun o => (g11.alloc o).free
      go_wp2_with fail
      refine (made_any _ l (112 + (k : Int)) s4 _ (H.out.below B) HSZ.out (by omega)).mono ?_
      rintro e wa6 ⟨y1, rfl, o2, b⟩
      try clear c_g4 f_g4 a_g4 d_g4 e_g4
      replace g4 := g4.below b; have c_g4 := g4.cell; have f_g4 := g4.free; have a_g4 := fun o => (g4.alloc o).cell; have d_g4 := fun o o2 => ((g4.alloc o).alloc o2).cell; have e_g4 := fun o => (g4.alloc o).free; replace B1 := B1.trans (b.mono B1.size); try clear c_g10 f_g10 a_g10 d_g10 e_g10
      replace g10 := g10.below b; have c_g10 := g10.cell; have f_g10 := g10.free; have a_g10 := fun o => (g10.alloc o).cell; have d_g10 := fun o o2 => ((g10.alloc o).alloc o2).cell; have e_g10 := fun o => (g10.alloc o).free; try clear c_g11 f_g11 a_g11 d_g11 e_g11
      replace g11 := g11.below b; have c_g11 := g11.cell; have f_g11 := g11.free; have a_g11 := fun o => (g11.alloc o).cell; have d_g11 := fun o o2 => ((g11.alloc o).alloc o2).cell; have e_g11 := fun o => (g11.alloc o).free; replace B := B.trans (b.mono B.size); clear b
      have n0 : (0 : Int) ≤ (k : Int) := by omega
      go_wp2_with fail
      refine (same18_any _ _ (slots l) (l.set (112 + k) s4) (k : Int) HL16.out Q1.out Q2.out _ (HO.out.rd.below B1) (by have := o2.rd; rwa [show (112 + (k : Int)).toNat = 112 + k by omega] at this)).mono ?_
      rintro e wb0 ⟨rfl, b⟩
      have o3 := o2.below b
      clear c_g4 f_g4 a_g4 d_g4 e_g4 c_g10 f_g10 a_g10 d_g10 e_g10 c_g11 f_g11 a_g11 d_g11 e_g11 o2
      replace g4 := g4.below b; replace g10 := g10.below b; replace g11 := g11.below b; replace B := B.trans (b.mono B.size); replace B1 := B1.trans (b.mono B1.size)
      clear b
      have c_g10 := g10.cell
      go_wp2
      go_loop [15] (fun i => ∃ j : Nat, j ≤ k ∧ i = .int .i64 j) (fun i => k - (intOf i).toNat)
      case atStart => exact ⟨0, Nat.zero_le _, rfl⟩
      case round =>
        obtain ⟨j, hj, rfl⟩ := hrel
        by_cases hlt : j < k
        · obtain ⟨bb, oo, t, ia, c0, c1, c2, ht⟩ := (HO.out.rd.below B1).at_ (P := Try.prog) Try.underlying42 size_slot (k := j) (by rw [HL16.out]; omega)
          have hno := Q5.out j t hlt ht.out
          have hg := HGEN.out t (List.mem_of_getElem? ht.out)
          have n1 : (0 : Int) ≤ (j : Int) := by omega
          obtain ⟨gn, us, at_⟩ := t
          dsimp only at *
          have hcase : us = true ∨ us = false ∧ ¬ gn < 2147483647 := by
            cases us
            · exact .inr ⟨rfl, fun h => hno ⟨rfl, by omega⟩⟩
            · exact .inl rfl
          clear hno ht
          rcases hcase with rfl | ⟨rfl, hg2⟩
          all_goals
            go_wp2
            go_round
            case rel => exact ⟨j + 1, by omega, by go_num⟩
            case measure => simp [intOf]; omega
        · obtain rfl : j = k := by omega
          go_wp2_with fail
          refine (Resolve_any _ (l.set (112 + j) s4) (j : Int) (s.gen + 1) a 0 Q4.out.symm Q3.out.symm _ (by have := o3.rd; rwa [show (112 + (j : Int)).toNat = 112 + j by omega] at this)).mono ?_
          rintro e wb1 ⟨rfl, b⟩
          clear c_g10
          replace g4 := g4.below b; replace g10 := g10.below b; replace g11 := g11.below b; replace B := B.trans (b.mono B.size); replace B1 := B1.trans (b.mono B1.size)
          clear b
          obtain ⟨bb, oo, t, ia, m0, m1, m2, ht⟩ := (HO.out.rd.below B1).at_ (P := Try.prog) Try.underlying42 size_slot (k := j) (by rw [HL16.out]; omega)
          have hts : t = s := by have h1 := ht.out; rw [Q0.out] at h1; injection h1 with h1; exact h1.symm
          subst hts
          clear ht
          have hwk : IntKind.i64.wrap (t.gen + 1) = t.gen + 1 := IntWalk.i64_in _ (by omega)
          have hnn : ((t.gen + 1) != (t.gen + 1)) = false := by simp
          go_wp2
          have c_g4 := g4.cell; have c_g10 := g10.cell; have c_g11 := g11.cell
          refine wp_region_calm (by kernel_rfl) (by kernel_rfl) ?_
          try clear c_g4 f_g4 a_g4 d_g4 e_g4
          have c_g4 := fun x : Fut _ => (g4.below x.h).cell
          try clear c_g10 f_g10 a_g10 d_g10 e_g10
          have c_g10 := fun x : Fut _ => (g10.below x.h).cell
          try clear c_g11 f_g11 a_g11 d_g11 e_g11
          have c_g11 := fun x : Fut _ => (g11.below x.h).cell
          have c_m0 := fun x : Fut _ => cell_later x.h m0
          have c_m1 := fun x : Fut _ => cell_later x.h m1
          have c_m2 := fun x : Fut _ => cell_later x.h m2
          repeat (go_big_quiet_step (fail))
          refine wpQuiet_nil ?_
          intro _ hw'
          obtain ⟨xq, hw''⟩ := hw'
          subst hw''
          clear c_g4; replace g4 := g4.below xq.h; have c_g4 := g4.cell; have f_g4 := g4.free; have a_g4 := fun o => (g4.alloc o).cell; have d_g4 := fun o o2 => ((g4.alloc o).alloc o2).cell; have e_g4 := fun o => (g4.alloc o).free
          clear c_g10; replace g10 := g10.below xq.h; have c_g10 := g10.cell; have f_g10 := g10.free; have a_g10 := fun o => (g10.alloc o).cell; have d_g10 := fun o o2 => ((g10.alloc o).alloc o2).cell; have e_g10 := fun o => (g10.alloc o).free
          clear c_g11; replace g11 := g11.below xq.h; have c_g11 := g11.cell; have f_g11 := g11.free; have a_g11 := fun o => (g11.alloc o).cell; have d_g11 := fun o o2 => ((g11.alloc o).alloc o2).cell; have e_g11 := fun o => (g11.alloc o).free
          replace B1 := B1.trans (xq.h.mono B1.size)
          clear c_m0; replace m0 := cell_later xq.h m0
          clear c_m1; replace m1 := cell_later xq.h m1
          clear c_m2; replace m2 := cell_later xq.h m2
          replace B := B.trans (xq.h.mono B.size)
          clear hwk hnn c_g10 f_g10 a_g10 d_g10 e_g10 m0 m1 m2
          go_wp2_with fail
          refine (HD.out _ _ (H.out.below B)).mono ?_
          rintro e wc0 ⟨rfl, b⟩
          replace g4 := g4.below b; replace g11 := g11.below b; replace B := B.trans (b.mono B.size); replace B1 := B1.trans (b.mono B1.size)
          try clear c_g4 f_g4 a_g4 d_g4 e_g4
          try clear c_g11 f_g11 a_g11 d_g11 e_g11
          try clear c_g10 f_g10 a_g10 d_g10 e_g10
          clear b
          have c_g4 := g4.cell; have c_g11 := g11.cell; have f_g11 := g11.free
          go_wp2_with fail
          refine calls_gen (fun V => Bx V w.heap.size 39 #[.int .i64 j2, .int .i64 g] ∧ Below w.heap.size w V ∧ Below wa3.heap.size wa3 V)
            ⟨(g4.far (by dsimp only; omega) _).far (by dsimp only; omega) _, (B.setCell (by dsimp only; omega) _).setCell (by dsimp only; omega) _, (B1.setCell (by dsimp only; omega) _).setCell (by dsimp only; omega) _⟩ ?_
          clear c_g4 c_g11 f_g11 g4 g11 B B1
          rintro wd0 ⟨g4, B, B1⟩
          have c_g4 := g4.cell
          refine (made_any _ l (112 + (j2 : Int)) d2 _ (H.out.below B) HSZ.out (by omega)).mono ?_
          rintro e wd1 ⟨y3, rfl, o5, b⟩
          clear c_g4
          replace g4 := g4.below b; replace B := B.trans (b.mono B.size); replace B1 := B1.trans (b.mono B1.size); clear b
          have c_g4 := g4.cell
          have n9 : (0 : Int) ≤ (j2 : Int) := by omega
          go_wp2_with fail
          refine (same18_any _ _ (slots l) (l.set (112 + j2) d2) (j2 : Int) HL16.out Z1.out Z2.out _ (HO.out.rd.below B1) (by have := o5.rd; rwa [show (112 + (j2 : Int)).toNat = 112 + j2 by omega] at this)).mono ?_
          rintro e wd2 ⟨rfl, b⟩
          have o6 := o5.below b
          clear c_g4 o5
          replace g4 := g4.below b; replace B := B.trans (b.mono B.size); replace B1 := B1.trans (b.mono B1.size); clear b
          have c_g4 := g4.cell
          go_wp2_with fail
          refine (Resolve_any _ (l.set (112 + j2) d2) (j2 : Int) g _ 28 rfl Z3.out.symm _ (by have := o6.rd; rwa [show (112 + (j2 : Int)).toNat = 112 + j2 by omega] at this)).mono ?_
          rintro e wd3 ⟨rfl, b⟩
          replace B := B.trans (b.mono B.size); clear b
          go_wp2
          go_ret
          exact ⟨rfl, B⟩
    · clear D1
      go_enter Try.func8, Try.ntmps8
      go_upto_region 1 with (fail)
      refine wp_gen (fun Wv => Bx Wv (w.heap.size) (39) (#[.int .i64 sl, .int .i64 g]) ∧ Below w.heap.size w Wv) ⟨((Bx.at_ (by simp))), ((Below.refl _ w).alloc (by simp <;> omega) _)⟩ ?_
      rintro wa1 ⟨g4, b⟩
      replace B := B.trans (b.mono B.size); clear b
      have c_g4 := g4.cell; have f_g4 := g4.free; have a_g4 := fun o => (g4.alloc o).cell; have d_g4 := fun o o2 => ((g4.alloc o).alloc o2).cell; have e_g4 := fun o => (g4.alloc o).free
      go_wp2_with fail
      refine (alive18_any _).mono ?_
      rintro e wa2 ⟨rfl, b⟩
      try clear c_g4 f_g4 a_g4 d_g4 e_g4
      replace g4 := g4.below b; have c_g4 := g4.cell; have f_g4 := g4.free; have a_g4 := fun o => (g4.alloc o).cell; have d_g4 := fun o o2 => ((g4.alloc o).alloc o2).cell; have e_g4 := fun o => (g4.alloc o).free; replace B := B.trans (b.mono B.size); clear b
      go_wp2_with fail
      refine (Great_any _ _ _ (H.out.below B)).mono ?_
      rw [decide_eq_false hbig]
      rintro e w' ⟨rfl, rfl⟩
      go_wp2_with fail
      refine (HC.out _ (H.out.below B)).mono ?_
      rintro e w' ⟨rfl, rfl⟩
      go_wp2_with fail
      refine (HA.out _ _ (H.out.below B)).mono ?_
      rintro e wa3 ⟨xl, E, rfl, o1, b⟩
      try clear c_g4 f_g4 a_g4 d_g4 e_g4
      replace g4 := g4.below b; have c_g4 := g4.cell; have f_g4 := g4.free; have a_g4 := fun o => (g4.alloc o).cell; have d_g4 := fun o o2 => ((g4.alloc o).alloc o2).cell; have e_g4 := fun o => (g4.alloc o).free; replace B := B.trans (b.mono B.size); clear b
      have B1 : Below wa3.heap.size wa3 wa3 := Below.refl _ _
      have HO := Lib.hid o1; clear o1
      have l1 := Rd.len HO.out.rd Try.underlying42
      rw [HL16.out] at l1
      go_wp2_with fail
      refine (HN.out _ _ (H.out.below B)).mono ?_
      rintro e wa4 ⟨rfl, b⟩
      try clear c_g4 f_g4 a_g4 d_g4 e_g4
      replace g4 := g4.below b; have c_g4 := g4.cell; have f_g4 := g4.free; have a_g4 := fun o => (g4.alloc o).cell; have d_g4 := fun o o2 => ((g4.alloc o).alloc o2).cell; have e_g4 := fun o => (g4.alloc o).free; replace B1 := B1.trans (b.mono B1.size); replace B := B.trans (b.mono B.size); clear b
      have hz4 := B.size; have hz5 := B1.size
      go_wp2_with fail
      refine calls_gen (fun Wv => Bx Wv (wa4.heap.size) (39) (#[.int .i64 k, .int .i64 (s.gen + 1)]) ∧ Bx Wv (wa4.heap.size + 1) (52) (#[.int .i64 (112 + k), .int .u64 s4.toNat]) ∧ Below wa4.heap.size wa4 Wv) ⟨(((Bx.at_ (by simp)).alloc _)), ((Bx.at_ (by simp))), (((Below.refl _ wa4).alloc (by simp <;> omega) _).alloc (by simp <;> omega) _)⟩ ?_
      rintro wa5 ⟨g10, g11, b⟩
      try clear c_g4 f_g4 a_g4 d_g4 e_g4
      replace g4 := g4.below b; have c_g4 := g4.cell; have f_g4 := g4.free; have a_g4 := fun o => (g4.alloc o).cell; have d_g4 := fun o o2 => ((g4.alloc o).alloc o2).cell; have e_g4 := fun o => (g4.alloc o).free; replace B1 := B1.trans (b.mono B1.size); replace B := B.trans (b.mono B.size); clear b
      have c_g10 := g10.cell; have f_g10 := g10.free; have a_g10 := fun o => (g10.alloc o).cell; have d_g10 := fun o o2 => ((g10.alloc o).alloc o2).cell; have e_g10 := fun o => (g10.alloc o).free
      have c_g11 := g11.cell; have f_g11 := g11.free; have a_g11 := fun o => (g11.alloc o).cell; have d_g11 := fun o o2 => ((g11.alloc o).alloc o2).cell; have e_g11 := fun o => (g11.alloc o).free
      go_wp2_with fail
      refine (made_any _ l (112 + (k : Int)) s4 _ (H.out.below B) HSZ.out (by omega)).mono ?_
      rintro e wa6 ⟨y1, rfl, o2, b⟩
      try clear c_g4 f_g4 a_g4 d_g4 e_g4
      replace g4 := g4.below b; have c_g4 := g4.cell; have f_g4 := g4.free; have a_g4 := fun o => (g4.alloc o).cell; have d_g4 := fun o o2 => ((g4.alloc o).alloc o2).cell; have e_g4 := fun o => (g4.alloc o).free; replace B1 := B1.trans (b.mono B1.size); try clear c_g10 f_g10 a_g10 d_g10 e_g10
      replace g10 := g10.below b; have c_g10 := g10.cell; have f_g10 := g10.free; have a_g10 := fun o => (g10.alloc o).cell; have d_g10 := fun o o2 => ((g10.alloc o).alloc o2).cell; have e_g10 := fun o => (g10.alloc o).free; try clear c_g11 f_g11 a_g11 d_g11 e_g11
      replace g11 := g11.below b; have c_g11 := g11.cell; have f_g11 := g11.free; have a_g11 := fun o => (g11.alloc o).cell; have d_g11 := fun o o2 => ((g11.alloc o).alloc o2).cell; have e_g11 := fun o => (g11.alloc o).free; replace B := B.trans (b.mono B.size); clear b
      have n0 : (0 : Int) ≤ (k : Int) := by omega
      go_wp2_with fail
      refine (same18_any _ _ (slots l) (l.set (112 + k) s4) (k : Int) HL16.out Q1.out Q2.out _ (HO.out.rd.below B1) (by have := o2.rd; rwa [show (112 + (k : Int)).toNat = 112 + k by omega] at this)).mono ?_
      rintro e wb0 ⟨rfl, b⟩
      have o3 := o2.below b
      clear c_g4 f_g4 a_g4 d_g4 e_g4 c_g10 f_g10 a_g10 d_g10 e_g10 c_g11 f_g11 a_g11 d_g11 e_g11 o2
      replace g4 := g4.below b; replace g10 := g10.below b; replace g11 := g11.below b; replace B := B.trans (b.mono B.size); replace B1 := B1.trans (b.mono B1.size)
      clear b
      have c_g10 := g10.cell
      go_wp2
      go_loop [15] (fun i => ∃ j : Nat, j ≤ k ∧ i = .int .i64 j) (fun i => k - (intOf i).toNat)
      case atStart => exact ⟨0, Nat.zero_le _, rfl⟩
      case round =>
        obtain ⟨j, hj, rfl⟩ := hrel
        by_cases hlt : j < k
        · obtain ⟨bb, oo, t, ia, c0, c1, c2, ht⟩ := (HO.out.rd.below B1).at_ (P := Try.prog) Try.underlying42 size_slot (k := j) (by rw [HL16.out]; omega)
          have hno := Q5.out j t hlt ht.out
          have hg := HGEN.out t (List.mem_of_getElem? ht.out)
          have n1 : (0 : Int) ≤ (j : Int) := by omega
          obtain ⟨gn, us, at_⟩ := t
          dsimp only at *
          have hcase : us = true ∨ us = false ∧ ¬ gn < 2147483647 := by
            cases us
            · exact .inr ⟨rfl, fun h => hno ⟨rfl, by omega⟩⟩
            · exact .inl rfl
          clear hno ht
          rcases hcase with rfl | ⟨rfl, hg2⟩
          all_goals
            go_wp2
            go_round
            case rel => exact ⟨j + 1, by omega, by go_num⟩
            case measure => simp [intOf]; omega
        · obtain rfl : j = k := by omega
          go_wp2_with fail
          refine (Resolve_any _ (l.set (112 + j) s4) (j : Int) (s.gen + 1) a 0 Q4.out.symm Q3.out.symm _ (by have := o3.rd; rwa [show (112 + (j : Int)).toNat = 112 + j by omega] at this)).mono ?_
          rintro e wb1 ⟨rfl, b⟩
          clear c_g10
          replace g4 := g4.below b; replace g10 := g10.below b; replace g11 := g11.below b; replace B := B.trans (b.mono B.size); replace B1 := B1.trans (b.mono B1.size)
          clear b
          obtain ⟨bb, oo, t, ia, m0, m1, m2, ht⟩ := (HO.out.rd.below B1).at_ (P := Try.prog) Try.underlying42 size_slot (k := j) (by rw [HL16.out]; omega)
          have hts : t = s := by have h1 := ht.out; rw [Q0.out] at h1; injection h1 with h1; exact h1.symm
          subst hts
          clear ht
          have hwk : IntKind.i64.wrap (t.gen + 1) = t.gen + 1 := IntWalk.i64_in _ (by omega)
          have hnn : ((t.gen + 1) != (t.gen + 1)) = false := by simp
          go_wp2
          have c_g4 := g4.cell; have c_g10 := g10.cell; have c_g11 := g11.cell
          refine wp_region_calm (by kernel_rfl) (by kernel_rfl) ?_
          try clear c_g4 f_g4 a_g4 d_g4 e_g4
          have c_g4 := fun x : Fut _ => (g4.below x.h).cell
          try clear c_g10 f_g10 a_g10 d_g10 e_g10
          have c_g10 := fun x : Fut _ => (g10.below x.h).cell
          try clear c_g11 f_g11 a_g11 d_g11 e_g11
          have c_g11 := fun x : Fut _ => (g11.below x.h).cell
          have c_m0 := fun x : Fut _ => cell_later x.h m0
          have c_m1 := fun x : Fut _ => cell_later x.h m1
          have c_m2 := fun x : Fut _ => cell_later x.h m2
          repeat (go_big_quiet_step (fail))
          refine wpQuiet_nil ?_
          intro _ hw'
          obtain ⟨xq, hw''⟩ := hw'
          subst hw''
          clear c_g4; replace g4 := g4.below xq.h; have c_g4 := g4.cell; have f_g4 := g4.free; have a_g4 := fun o => (g4.alloc o).cell; have d_g4 := fun o o2 => ((g4.alloc o).alloc o2).cell; have e_g4 := fun o => (g4.alloc o).free
          clear c_g10; replace g10 := g10.below xq.h; have c_g10 := g10.cell; have f_g10 := g10.free; have a_g10 := fun o => (g10.alloc o).cell; have d_g10 := fun o o2 => ((g10.alloc o).alloc o2).cell; have e_g10 := fun o => (g10.alloc o).free
          clear c_g11; replace g11 := g11.below xq.h; have c_g11 := g11.cell; have f_g11 := g11.free; have a_g11 := fun o => (g11.alloc o).cell; have d_g11 := fun o o2 => ((g11.alloc o).alloc o2).cell; have e_g11 := fun o => (g11.alloc o).free
          replace B1 := B1.trans (xq.h.mono B1.size)
          clear c_m0; replace m0 := cell_later xq.h m0
          clear c_m1; replace m1 := cell_later xq.h m1
          clear c_m2; replace m2 := cell_later xq.h m2
          replace B := B.trans (xq.h.mono B.size)
          clear hwk hnn c_g10 f_g10 a_g10 d_g10 e_g10 m0 m1 m2
          go_wp2_with fail
          refine (HD.out _ _ (H.out.below B)).mono ?_
          rintro e wc0 ⟨rfl, b⟩
          replace g4 := g4.below b; replace g11 := g11.below b; replace B := B.trans (b.mono B.size); replace B1 := B1.trans (b.mono B1.size)
          try clear c_g4 f_g4 a_g4 d_g4 e_g4
          try clear c_g11 f_g11 a_g11 d_g11 e_g11
          try clear c_g10 f_g10 a_g10 d_g10 e_g10
          clear b
          have c_g4 := g4.cell; have c_g11 := g11.cell; have f_g11 := g11.free
          go_wp2
          go_ret
          exact ⟨rfl, (B.setCell (by dsimp only; omega) _).setCell (by dsimp only; omega) _⟩
  · clear N1
    rcases c2 with rfl | hd0
    · skip
      obtain ⟨j2, z1, rfl, rfl, z2, z3, z4⟩ := D1 rfl
      have Z1 := Lib.hid z2; have Z2 := Lib.hid z3; have Z3 := Lib.hid z4
      clear z2 z3 z4 D1
      go_enter Try.func8, Try.ntmps8
      go_upto_region 1 with (fail)
      refine wp_gen (fun Wv => Bx Wv (w.heap.size) (39) (#[.int .i64 (j2 : Int), .int .i64 g]) ∧ Below w.heap.size w Wv) ⟨((Bx.at_ (by simp))), ((Below.refl _ w).alloc (by simp <;> omega) _)⟩ ?_
      rintro wa1 ⟨g4, b⟩
      replace B := B.trans (b.mono B.size); clear b
      have c_g4 := g4.cell; have f_g4 := g4.free; have a_g4 := fun o => (g4.alloc o).cell; have d_g4 := fun o o2 => ((g4.alloc o).alloc o2).cell; have e_g4 := fun o => (g4.alloc o).free
      go_wp2_with fail
      refine (alive18_any _).mono ?_
      rintro e wa2 ⟨rfl, b⟩
      try clear c_g4 f_g4 a_g4 d_g4 e_g4
      replace g4 := g4.below b; have c_g4 := g4.cell; have f_g4 := g4.free; have a_g4 := fun o => (g4.alloc o).cell; have d_g4 := fun o o2 => ((g4.alloc o).alloc o2).cell; have e_g4 := fun o => (g4.alloc o).free; replace B := B.trans (b.mono B.size); clear b
      go_wp2_with fail
      refine (Great_any _ _ _ (H.out.below B)).mono ?_
      rw [decide_eq_false hbig]
      rintro e w' ⟨rfl, rfl⟩
      go_wp2_with fail
      refine (HC.out _ (H.out.below B)).mono ?_
      rintro e w' ⟨rfl, rfl⟩
      go_wp2_with fail
      refine (HA.out _ _ (H.out.below B)).mono ?_
      rintro e wa3 ⟨xl, E, rfl, o1, b⟩
      try clear c_g4 f_g4 a_g4 d_g4 e_g4
      replace g4 := g4.below b; have c_g4 := g4.cell; have f_g4 := g4.free; have a_g4 := fun o => (g4.alloc o).cell; have d_g4 := fun o o2 => ((g4.alloc o).alloc o2).cell; have e_g4 := fun o => (g4.alloc o).free; replace B := B.trans (b.mono B.size); clear b
      have B1 : Below wa3.heap.size wa3 wa3 := Below.refl _ _
      have HO := Lib.hid o1; clear o1
      have l1 := Rd.len HO.out.rd Try.underlying42
      rw [HL16.out] at l1
      go_wp2_with fail
      refine (HN.out _ _ (H.out.below B)).mono ?_
      rintro e wa4 ⟨rfl, b⟩
      try clear c_g4 f_g4 a_g4 d_g4 e_g4
      replace g4 := g4.below b; have c_g4 := g4.cell; have f_g4 := g4.free; have a_g4 := fun o => (g4.alloc o).cell; have d_g4 := fun o o2 => ((g4.alloc o).alloc o2).cell; have e_g4 := fun o => (g4.alloc o).free; replace B1 := B1.trans (b.mono B1.size); replace B := B.trans (b.mono B.size); clear b
      have hz4 := B.size; have hz5 := B1.size
      go_wp2_with fail
      refine calls_gen (fun Wv => Bx Wv (wa4.heap.size) (39) (#[.int .i64 s1, .int .i64 s2]) ∧ Bx Wv (wa4.heap.size + 1) (52) (#[.int .i64 s3, .int .u64 s4.toNat]) ∧ Below wa4.heap.size wa4 Wv) ⟨(((Bx.at_ (by simp)).alloc _)), ((Bx.at_ (by simp))), (((Below.refl _ wa4).alloc (by simp <;> omega) _).alloc (by simp <;> omega) _)⟩ ?_
      rintro wa5 ⟨g10, g11, b⟩
      try clear c_g4 f_g4 a_g4 d_g4 e_g4
      replace g4 := g4.below b; have c_g4 := g4.cell; have f_g4 := g4.free; have a_g4 := fun o => (g4.alloc o).cell; have d_g4 := fun o o2 => ((g4.alloc o).alloc o2).cell; have e_g4 := fun o => (g4.alloc o).free; replace B1 := B1.trans (b.mono B1.size); replace B := B.trans (b.mono B.size); clear b
      have c_g10 := g10.cell; have f_g10 := g10.free; have a_g10 := fun o => (g10.alloc o).cell; have d_g10 := fun o o2 => ((g10.alloc o).alloc o2).cell; have e_g10 := fun o => (g10.alloc o).free
      have c_g11 := g11.cell; have f_g11 := g11.free; have a_g11 := fun o => (g11.alloc o).cell; have d_g11 := fun o o2 => ((g11.alloc o).alloc o2).cell; have e_g11 := fun o => (g11.alloc o).free
      go_wp2_with fail
      refine (HD.out _ _ (H.out.below B)).mono ?_
      rintro e wc0 ⟨rfl, b⟩
      replace g4 := g4.below b; replace g11 := g11.below b; replace B := B.trans (b.mono B.size); replace B1 := B1.trans (b.mono B1.size)
      try clear c_g4 f_g4 a_g4 d_g4 e_g4
      try clear c_g11 f_g11 a_g11 d_g11 e_g11
      try clear c_g10 f_g10 a_g10 d_g10 e_g10
      clear b
      have c_g4 := g4.cell; have c_g11 := g11.cell; have f_g11 := g11.free
      go_wp2_with fail
      refine calls_gen (fun V => Bx V w.heap.size 39 #[.int .i64 j2, .int .i64 g] ∧ Below w.heap.size w V ∧ Below wa3.heap.size wa3 V)
        ⟨(g4.far (by dsimp only; omega) _).far (by dsimp only; omega) _, (B.setCell (by dsimp only; omega) _).setCell (by dsimp only; omega) _, (B1.setCell (by dsimp only; omega) _).setCell (by dsimp only; omega) _⟩ ?_
      clear c_g4 c_g11 f_g11 g4 g11 B B1
      rintro wd0 ⟨g4, B, B1⟩
      have c_g4 := g4.cell
      refine (made_any _ l (112 + (j2 : Int)) d2 _ (H.out.below B) HSZ.out (by omega)).mono ?_
      rintro e wd1 ⟨y3, rfl, o5, b⟩
      clear c_g4
      replace g4 := g4.below b; replace B := B.trans (b.mono B.size); replace B1 := B1.trans (b.mono B1.size); clear b
      have c_g4 := g4.cell
      have n9 : (0 : Int) ≤ (j2 : Int) := by omega
      go_wp2_with fail
      refine (same18_any _ _ (slots l) (l.set (112 + j2) d2) (j2 : Int) HL16.out Z1.out Z2.out _ (HO.out.rd.below B1) (by have := o5.rd; rwa [show (112 + (j2 : Int)).toNat = 112 + j2 by omega] at this)).mono ?_
      rintro e wd2 ⟨rfl, b⟩
      have o6 := o5.below b
      clear c_g4 o5
      replace g4 := g4.below b; replace B := B.trans (b.mono B.size); replace B1 := B1.trans (b.mono B1.size); clear b
      have c_g4 := g4.cell
      go_wp2_with fail
      refine (Resolve_any _ (l.set (112 + j2) d2) (j2 : Int) g _ 28 rfl Z3.out.symm _ (by have := o6.rd; rwa [show (112 + (j2 : Int)).toNat = 112 + j2 by omega] at this)).mono ?_
      rintro e wd3 ⟨rfl, b⟩
      replace B := B.trans (b.mono B.size); clear b
      go_wp2
      go_ret
      exact ⟨rfl, B⟩
    · clear D1
      go_enter Try.func8, Try.ntmps8
      go_upto_region 1 with (fail)
      refine wp_gen (fun Wv => Bx Wv (w.heap.size) (39) (#[.int .i64 sl, .int .i64 g]) ∧ Below w.heap.size w Wv) ⟨((Bx.at_ (by simp))), ((Below.refl _ w).alloc (by simp <;> omega) _)⟩ ?_
      rintro wa1 ⟨g4, b⟩
      replace B := B.trans (b.mono B.size); clear b
      have c_g4 := g4.cell; have f_g4 := g4.free; have a_g4 := fun o => (g4.alloc o).cell; have d_g4 := fun o o2 => ((g4.alloc o).alloc o2).cell; have e_g4 := fun o => (g4.alloc o).free
      go_wp2_with fail
      refine (alive18_any _).mono ?_
      rintro e wa2 ⟨rfl, b⟩
      try clear c_g4 f_g4 a_g4 d_g4 e_g4
      replace g4 := g4.below b; have c_g4 := g4.cell; have f_g4 := g4.free; have a_g4 := fun o => (g4.alloc o).cell; have d_g4 := fun o o2 => ((g4.alloc o).alloc o2).cell; have e_g4 := fun o => (g4.alloc o).free; replace B := B.trans (b.mono B.size); clear b
      go_wp2_with fail
      refine (Great_any _ _ _ (H.out.below B)).mono ?_
      rw [decide_eq_false hbig]
      rintro e w' ⟨rfl, rfl⟩
      go_wp2_with fail
      refine (HC.out _ (H.out.below B)).mono ?_
      rintro e w' ⟨rfl, rfl⟩
      go_wp2_with fail
      refine (HA.out _ _ (H.out.below B)).mono ?_
      rintro e wa3 ⟨xl, E, rfl, o1, b⟩
      try clear c_g4 f_g4 a_g4 d_g4 e_g4
      replace g4 := g4.below b; have c_g4 := g4.cell; have f_g4 := g4.free; have a_g4 := fun o => (g4.alloc o).cell; have d_g4 := fun o o2 => ((g4.alloc o).alloc o2).cell; have e_g4 := fun o => (g4.alloc o).free; replace B := B.trans (b.mono B.size); clear b
      have B1 : Below wa3.heap.size wa3 wa3 := Below.refl _ _
      have HO := Lib.hid o1; clear o1
      have l1 := Rd.len HO.out.rd Try.underlying42
      rw [HL16.out] at l1
      go_wp2_with fail
      refine (HN.out _ _ (H.out.below B)).mono ?_
      rintro e wa4 ⟨rfl, b⟩
      try clear c_g4 f_g4 a_g4 d_g4 e_g4
      replace g4 := g4.below b; have c_g4 := g4.cell; have f_g4 := g4.free; have a_g4 := fun o => (g4.alloc o).cell; have d_g4 := fun o o2 => ((g4.alloc o).alloc o2).cell; have e_g4 := fun o => (g4.alloc o).free; replace B1 := B1.trans (b.mono B1.size); replace B := B.trans (b.mono B.size); clear b
      have hz4 := B.size; have hz5 := B1.size
      go_wp2_with fail
      refine calls_gen (fun Wv => Bx Wv (wa4.heap.size) (39) (#[.int .i64 s1, .int .i64 s2]) ∧ Bx Wv (wa4.heap.size + 1) (52) (#[.int .i64 s3, .int .u64 s4.toNat]) ∧ Below wa4.heap.size wa4 Wv) ⟨(((Bx.at_ (by simp)).alloc _)), ((Bx.at_ (by simp))), (((Below.refl _ wa4).alloc (by simp <;> omega) _).alloc (by simp <;> omega) _)⟩ ?_
      rintro wa5 ⟨g10, g11, b⟩
      try clear c_g4 f_g4 a_g4 d_g4 e_g4
      replace g4 := g4.below b; have c_g4 := g4.cell; have f_g4 := g4.free; have a_g4 := fun o => (g4.alloc o).cell; have d_g4 := fun o o2 => ((g4.alloc o).alloc o2).cell; have e_g4 := fun o => (g4.alloc o).free; replace B1 := B1.trans (b.mono B1.size); replace B := B.trans (b.mono B.size); clear b
      have c_g10 := g10.cell; have f_g10 := g10.free; have a_g10 := fun o => (g10.alloc o).cell; have d_g10 := fun o o2 => ((g10.alloc o).alloc o2).cell; have e_g10 := fun o => (g10.alloc o).free
      have c_g11 := g11.cell; have f_g11 := g11.free; have a_g11 := fun o => (g11.alloc o).cell; have d_g11 := fun o o2 => ((g11.alloc o).alloc o2).cell; have e_g11 := fun o => (g11.alloc o).free
      go_wp2_with fail
      refine (HD.out _ _ (H.out.below B)).mono ?_
      rintro e wc0 ⟨rfl, b⟩
      replace g4 := g4.below b; replace g11 := g11.below b; replace B := B.trans (b.mono B.size); replace B1 := B1.trans (b.mono B1.size)
      try clear c_g4 f_g4 a_g4 d_g4 e_g4
      try clear c_g11 f_g11 a_g11 d_g11 e_g11
      try clear c_g10 f_g10 a_g10 d_g10 e_g10
      clear b
      have c_g4 := g4.cell; have c_g11 := g11.cell; have f_g11 := g11.free
      go_wp2
      go_ret
      exact ⟨rfl, (B.setCell (by dsimp only; omega) _).setCell (by dsimp only; omega) _⟩
end Go.Proofs.Yteiocllnhljpjaa
