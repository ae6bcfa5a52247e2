/- The walks of the laws TwinHeals, TwinFirst. -/
import Derived.Test.YtcfohfphhpmmdaaWa07
set_option linter.unusedVariables false
set_option linter.unusedSimpArgs false
namespace Go.Proofs.Ytcfohfphhpmmdaa
open Go.RowKit L02 L05 L06 L07

theorem Check6R_r (W T r : Int) (hr : r = supErr W T) (w : World) : Calls Try.prog 22 #[.agg #[.int .i64 W, .int .i64 T]] w fun e w' => e = .returned (.int .i64 r) ∧ Below w.heap.size w w' := by subst hr; exact Check6R_any W T w
theorem made_at {W T : Int} (h : SupOk W T) {k : Nat} (hk : 16 ≤ k) (x : UInt64) : (made W T).set k x = wordsOf W T ++ (wordsOf W T ++ (List.replicate (W.toNat - 16) 0).set (k - 16) x) := by
  rw [made, List.set_append_right _ _ (by rw [len_words]; omega), List.set_append_right _ _ (by rw [len_words]; omega), len_words, show k - 8 - 8 = k - 16 by omega]
/-- a copy put into an image of two -/
theorem put_copy {W T : Int} (h : SupOk W T) {M r l : List UInt64} (hM : M = wordsOf W T ++ (wordsOf W T ++ r)) (hl : (M.length : Int) = W) (h8 : l.length = 8) :
    (rng M 0 8 = 0 ∧ L02.put M 0 l = l ++ (wordsOf W T ++ r)) ∧ (rng M 8 8 = 0 ∧ L02.put M 8 l = wordsOf W T ++ (l ++ r)) := by
  have hs : SizeOk M.length := by rw [hl]; exact h.1
  have h256 := h.1.1
  have r0 : rng M 0 8 = 0 := rng_ok hs ⟨by omega, by omega, by omega, by omega⟩
  have r8 : rng M 8 8 = 0 := rng_ok hs ⟨by omega, by omega, by omega, by omega⟩
  refine ⟨⟨r0, ?_⟩, r8, ?_⟩
  · rw [L02.put, if_pos (by rw [h8]; exact r0)]
    rw [hM, show ((0 : Int).toNat) = 0 from rfl, List.take_zero, List.nil_append, h8, Nat.zero_add, List.drop_append_of_le_length (by rw [len_words]; omega), List.drop_of_length_le (by rw [len_words]; omega), List.nil_append]
  · rw [L02.put, if_pos (by rw [h8]; exact r8)]
    rw [hM, show ((8 : Int).toNat) = 8 from rfl, h8, List.take_append_of_le_length (by rw [len_words]; omega), List.take_of_length_le (by rw [len_words]; omega), ← List.append_assoc (wordsOf W T) (wordsOf W T) r, List.drop_append_of_le_length (by simp [len_words]), List.drop_of_length_le (by simp [len_words]), List.nil_append]

set_option maxRecDepth 100000 in
set_option maxHeartbeats 8000000 in
theorem TwinHeals_walk (W T : Int) (wh : Int) (vl : Value) (l : List UInt64) (a : Int) (x : UInt64) (w : World) (f1 : -9223372036854775808 ≤ W ∧ W ≤ 9223372036854775807) (f2 : -9223372036854775808 ≤ T ∧ T ≤ 9223372036854775807) (f3 : -9223372036854775808 ≤ wh ∧ wh ≤ 9223372036854775807) (h0 : Words w vl l) (f4 : -9223372036854775808 ≤ a ∧ a ≤ 9223372036854775807) :
    Calls Try.prog 6 #[.agg #[.int .i64 W, .int .i64 T], .int .i64 wh, vl, .int .i64 a, .int .u64 x.toNat] w fun e w' => e = .returned (.bool true) ∧ Below w.heap.size w w' := by
  clear f1 f2 f3 f4
  have B : Below w.heap.size w w := Below.refl _ _
  have l1 := Rd.len h0 Try.underlying22
  have H := Lib.hid h0; clear h0
  obtain ⟨n, hn⟩ : ∃ n, n = l.length := ⟨_, rfl⟩
  rw [← hn] at l1
  by_cases hok : SupOk W T
  rotate_left
  · have C1 := Lib.hid (fun w => Check6R_r W T 8 (if_neg hok).symm w)
    clear hok hn
    go_enter Try.func6, Try.ntmps6
    go_upto_region 1 with (fail)
    refine wp_gen (fun Wv => Bx Wv (w.heap.size) (26) (#[.int .i64 W, .int .i64 T]) ∧ Below w.heap.size w Wv) ⟨((Bx.at_ (by simp))), ((Below.refl _ w).alloc (by simp <;> omega) _)⟩ ?_
    rintro wa1 ⟨g5, b⟩
    replace B := B.trans (b.mono B.size); clear b
    have c_g5 := g5.cell; have f_g5 := g5.free; have a_g5 := fun o => (g5.alloc o).cell; have d_g5 := fun o o2 => ((g5.alloc o).alloc o2).cell; have e_g5 := fun o => (g5.alloc o).free
    go_wp2_with fail
    refine (C1.out _).mono ?_
    rintro e wa2 ⟨rfl, b⟩
    try clear c_g5 f_g5 a_g5 d_g5 e_g5
    replace g5 := g5.below b; have c_g5 := g5.cell; have f_g5 := g5.free; have a_g5 := fun o => (g5.alloc o).cell; have d_g5 := fun o o2 => ((g5.alloc o).alloc o2).cell; have e_g5 := fun o => (g5.alloc o).free; replace B := B.trans (b.mono B.size); clear b
    go_wp2_with fail
    refine (alive07_any _).mono ?_
    rintro e wa3 ⟨rfl, b⟩
    try clear c_g5 f_g5 a_g5 d_g5 e_g5
    replace g5 := g5.below b; have c_g5 := g5.cell; have f_g5 := g5.free; have a_g5 := fun o => (g5.alloc o).cell; have d_g5 := fun o o2 => ((g5.alloc o).alloc o2).cell; have e_g5 := fun o => (g5.alloc o).free; replace B := B.trans (b.mono B.size); clear b
    go_wp2
    go_ret
    exact ⟨rfl, B⟩
  have C1 := Lib.hid (fun w => Check6R_r W T 0 (if_pos hok).symm w)
  by_cases hin : 0 ≤ wh ∧ wh ≤ 1 ∧ n = 8 ∧ 16 ≤ a ∧ a < W
  rotate_left
  · have hc : wh < 0 ∨ (0 ≤ wh ∧ 1 < wh) ∨ (0 ≤ wh ∧ wh ≤ 1 ∧ ((n : Int) != 8) = true) ∨ (0 ≤ wh ∧ wh ≤ 1 ∧ n = 8 ∧ a < 16) ∨ (0 ≤ wh ∧ wh ≤ 1 ∧ n = 8 ∧ 16 ≤ a ∧ W ≤ a) := by
      by_cases h1 : 0 ≤ wh
      · by_cases h2 : wh ≤ 1
        · by_cases h3 : n = 8
          · by_cases h4 : 16 ≤ a
            · exact .inr (.inr (.inr (.inr ⟨h1, h2, h3, h4, by omega⟩)))
            · exact .inr (.inr (.inr (.inl ⟨h1, h2, h3, by omega⟩)))
          · exact .inr (.inr (.inl ⟨h1, h2, by rw [bne_iff_ne]; omega⟩))
        · exact .inr (.inl ⟨h1, by omega⟩)
      · exact .inl (by omega)
    clear hin hok hn
    rcases hc with h1 | ⟨h1, h2⟩ | ⟨h1, h2, h3⟩ | ⟨h1, h2, rfl, h4⟩ | ⟨h1, h2, rfl, h4, h5⟩
    all_goals
      go_enter Try.func6, Try.ntmps6
      go_upto_region 1 with (fail)
      refine wp_gen (fun Wv => Bx Wv (w.heap.size) (26) (#[.int .i64 W, .int .i64 T]) ∧ Below w.heap.size w Wv) ⟨((Bx.at_ (by simp))), ((Below.refl _ w).alloc (by simp <;> omega) _)⟩ ?_
      rintro wa1 ⟨g5, b⟩
      replace B := B.trans (b.mono B.size); clear b
      have c_g5 := g5.cell; have f_g5 := g5.free; have a_g5 := fun o => (g5.alloc o).cell; have d_g5 := fun o o2 => ((g5.alloc o).alloc o2).cell; have e_g5 := fun o => (g5.alloc o).free
      go_wp2_with fail
      refine (C1.out _).mono ?_
      rintro e wa2 ⟨rfl, b⟩
      try clear c_g5 f_g5 a_g5 d_g5 e_g5
      replace g5 := g5.below b; have c_g5 := g5.cell; have f_g5 := g5.free; have a_g5 := fun o => (g5.alloc o).cell; have d_g5 := fun o o2 => ((g5.alloc o).alloc o2).cell; have e_g5 := fun o => (g5.alloc o).free; replace B := B.trans (b.mono B.size); clear b
      go_wp2_with fail
      refine (alive07_any _).mono ?_
      rintro e wa3 ⟨rfl, b⟩
      try clear c_g5 f_g5 a_g5 d_g5 e_g5
      replace g5 := g5.below b; have c_g5 := g5.cell; have f_g5 := g5.free; have a_g5 := fun o => (g5.alloc o).cell; have d_g5 := fun o o2 => ((g5.alloc o).alloc o2).cell; have e_g5 := fun o => (g5.alloc o).free; replace B := B.trans (b.mono B.size); clear b
      go_wp2
      go_ret
      exact ⟨rfl, B⟩
  obtain ⟨h1, h2, rfl, h4, h5⟩ := hin
  obtain ⟨k, rfl⟩ := Int.eq_ofNat_of_zero_le (show 0 ≤ a by omega)
  have h8 : l.length = 8 := hn.symm
  have hml := made_len hok
  obtain ⟨M, hM⟩ : ∃ M, M = (made W T).set k x := ⟨_, rfl⟩
  have hMs : M = wordsOf W T ++ (wordsOf W T ++ (List.replicate (W.toNat - 16) 0).set (k - 16) x) := by rw [hM]; exact made_at hok (by omega) x
  have hMl : (M.length : Int) = W := by rw [hM, List.length_set, hml]; have := hok.1.1; omega
  obtain ⟨⟨p1, p2⟩, p3, p4⟩ := put_copy hok hMs hMl h8
  have WT := Lib.hid (fun w => with_any W T hok w)
  obtain ⟨o0, ho0⟩ : ∃ o, o = rdW l := ⟨_, rfl⟩
  obtain ⟨o1, ho1⟩ : ∃ o, o = rdT l := ⟨_, rfl⟩
  obtain ⟨oe, hoe⟩ : ∃ o, o = rdErr l := ⟨_, rfl⟩
  have RD := Lib.hid (fun v w h => Read6_r v l o0 o1 oe ho0 ho1 hoe w h)
  have hwh : wh = 0 ∨ wh = 1 := by omega
  obtain ⟨X, hX⟩ : ∃ X, X = if wh = 0 then L02.put M 0 l else L02.put M 8 l := ⟨_, rfl⟩
  have PT : ∀ v mv w, Words w v M → Words w mv l → Calls Try.prog 23 #[v, .int .i64 (8 * wh), mv] w (RetWE w X 0) := by
    intro v mv w h h'
    rcases hwh with rfl | rfl
    · have := Put_any v mv M l 0 w h h'
      rw [h8, show rng M 0 ((8 : Nat) : Int) = 0 from p1] at this
      rw [hX, if_pos rfl]; exact this
    · have := Put_any v mv M l 8 w h h'
      rw [h8, show rng M 8 ((8 : Nat) : Int) = 0 from p3] at this
      rw [hX, if_neg (by omega)]; exact this
  have HP := Lib.hid PT
  have hw8 : IntKind.i64.wrap (8 * wh) = 8 * wh := IntWalk.i64_in _ (by omega)
  have HML := Lib.hid hml; have HM := Lib.hid hM; have HMl := Lib.hid hMl
  have Q1 := Lib.hid (fun U => sup7_eql W T W T true (by simp) U)
  -- is what stands in the first place another superblock?
  by_cases hno : wh = 0 ∧ ReadOk l ∧ at2 l = W
  · obtain ⟨rfl, hr, ha2⟩ := hno
    obtain rfl : oe = 0 := by rw [hoe, rdErr, if_pos h8, if_pos hr]
    obtain rfl : o0 = W := by rw [ho0, (rd_ok3 hr).1, ha2]
    clear hMs p1 p2 p3 p4 ho0 ho1 hoe hwh hX PT hr ha2 hM hMl hml h8 hn
    go_enter Try.func6, Try.ntmps6
    go_upto_region 1 with (fail)
    refine wp_gen (fun Wv => Bx Wv (w.heap.size) (26) (#[.int .i64 o0, .int .i64 T]) ∧ Below w.heap.size w Wv) ⟨((Bx.at_ (by simp))), ((Below.refl _ w).alloc (by simp <;> omega) _)⟩ ?_
    rintro wa1 ⟨g5, b⟩
    replace B := B.trans (b.mono B.size); clear b
    have c_g5 := g5.cell; have f_g5 := g5.free; have a_g5 := fun o => (g5.alloc o).cell; have d_g5 := fun o o2 => ((g5.alloc o).alloc o2).cell; have e_g5 := fun o => (g5.alloc o).free
    go_wp2_with fail
    refine (C1.out _).mono ?_
    rintro e wa2 ⟨rfl, b⟩
    try clear c_g5 f_g5 a_g5 d_g5 e_g5
    replace g5 := g5.below b; have c_g5 := g5.cell; have f_g5 := g5.free; have a_g5 := fun o => (g5.alloc o).cell; have d_g5 := fun o o2 => ((g5.alloc o).alloc o2).cell; have e_g5 := fun o => (g5.alloc o).free; replace B := B.trans (b.mono B.size); clear b
    go_upto_region 3 with (fail)
    have hg := g5.lt
    have hbz := B.size
    go_wp2_with fail
    refine (WT.out _).mono ?_
    rintro e wa3 ⟨v, rfl, o, b⟩
    try clear c_g5 f_g5 a_g5 d_g5 e_g5
    replace g5 := g5.below b; have c_g5 := g5.cell; have f_g5 := g5.free; have a_g5 := fun o => (g5.alloc o).cell; have d_g5 := fun o o2 => ((g5.alloc o).alloc o2).cell; have e_g5 := fun o => (g5.alloc o).free; replace B := B.trans (b.mono B.size); clear b
    obtain ⟨ad, u0, ia, ca, fa, hb, hu, hset⟩ := own_at (P := Try.prog) o Try.underlying22 one_u64 (k := (k : Int)) (by omega) (by rw [HML.out]; omega)
    have o2 : OwnW (wa3.setCell ad (.int .u64 x.toNat)) wa2.heap.size 50 v M := by
      rw [HM.out]; exact OwnW.set (x := x) (hset (.int .u64 x.toNat))
    have g2 := g5.far (p := ad) (by omega) (.int .u64 x.toNat)
    have B2 := B.setCell (p := ad) (by omega) (.int .u64 x.toNat)
    have HH := Lib.hid (And.intro o2 (And.intro g2 B2))
    clear o2 g2 B2 o B hset hb hg hbz
    go_upto_region 7 with (fail)
    refine wp_gen (fun U => OwnW U wa2.heap.size 50 v M ∧ Bx U w.heap.size 26 #[.int .i64 o0, .int .i64 T] ∧ Below w.heap.size w U) HH.out ?_
    clear HH ia ca fa hu c_g5 f_g5 a_g5 d_g5 e_g5 g5
    rintro w3 ⟨o, g5, B⟩
    have G5 := Lib.hid g5; clear g5
    have B1 : Below w3.heap.size w3 w3 := Below.refl _ _
    go_wp2_with fail
    refine (HP.out _ _ _ o.rd (H.out.below B)).mono ?_
    rintro e wa4 ⟨y, rfl, o3, b⟩
    replace B1 := B1.trans (b.mono B1.size); replace B := B.trans (b.mono B.size); clear b
    go_wp2_with fail
    refine (RD.out _ _ (H.out.below B)).mono ?_
    rintro e wa5 ⟨rfl, b⟩
    replace B1 := B1.trans (b.mono B1.size); replace B := B.trans (b.mono B.size); clear b
    go_upto_region 11 with (fail)
    refine wp_gen (fun Wv => Bx Wv (wa5.heap.size) (26) (#[.int .i64 o0, .int .i64 o1]) ∧ Below wa5.heap.size wa5 Wv) ⟨((Bx.at_ (by simp))), ((Below.refl _ wa5).alloc (by simp <;> omega) _)⟩ ?_
    rintro wa6 ⟨g15, b⟩
    replace B1 := B1.trans (b.mono B1.size); replace B := B.trans (b.mono B.size); clear b
    have c_g15 := g15.cell; have f_g15 := g15.free; have a_g15 := fun o => (g15.alloc o).cell; have d_g15 := fun o o2 => ((g15.alloc o).alloc o2).cell; have e_g15 := fun o => (g15.alloc o).free
    have c_g5 := (G5.out.below B1).cell
    go_wp2_with fail
    refine (alive07_any _).mono ?_
    rintro e wa7 ⟨rfl, b⟩
    replace B1 := B1.trans (b.mono B1.size); try clear c_g15 f_g15 a_g15 d_g15 e_g15
    replace g15 := g15.below b; have c_g15 := g15.cell; have f_g15 := g15.free; have a_g15 := fun o => (g15.alloc o).cell; have d_g15 := fun o o2 => ((g15.alloc o).alloc o2).cell; have e_g15 := fun o => (g15.alloc o).free; replace B := B.trans (b.mono B.size); clear b
    go_wp2
    go_ret
    exact ⟨rfl, B⟩
  · obtain ⟨e1, e2, e3, e4, e5⟩ := heals_one hok (l := l) (x := X) h8 hMs hMl (decide (wh = 1)) (by
      rw [hX]
      rcases hwh with rfl | rfl
      · simp [p2]
      · simp [p4]) (by intro h hh; rcases hwh with rfl | rfl; exact hno ⟨rfl, hh⟩; simp at h)
    obtain ⟨b0, hb0⟩ : ∃ b, b = is0 X := ⟨_, rfl⟩
    obtain ⟨b1, hb1⟩ : ∃ b, b = is1 X := ⟨_, rfl⟩
    have R1 := Lib.hid (fun v w h => TRead_any v X W T b0 b1 0 e2.symm e3.symm hb0 hb1 e1.symm w h)
    have V1 := Lib.hid (fun v w h => TView_any v X M 0 e5.symm e1.symm w h)
    have hcase : (wh = 0 ∧ b1 = true ∧ (oe = 0 ∧ (o0 == W) = false ∨ (oe == 0) = false)) ∨ (wh = 1 ∧ b0 = true ∧ (oe == 0) = true) ∨ (wh = 1 ∧ b0 = true ∧ (oe == 0) = false) := by
      rcases hwh with rfl | rfl
      · simp at e4
        refine .inl ⟨rfl, by rw [hb1]; exact e4, ?_⟩
        by_cases hoe0 : oe = 0
        · refine .inl ⟨hoe0, ?_⟩
          rw [beq_eq_false_iff_ne]
          intro hh
          have hr : ReadOk l := by
            have := hoe.symm.trans hoe0
            rw [rdErr, if_pos h8] at this
            by_cases hr : ReadOk l
            · exact hr
            · rw [if_neg hr] at this; omega
          exact hno ⟨rfl, hr, by rw [← (rd_ok3 hr).1, ← ho0, hh]⟩
        · exact .inr (by rw [beq_eq_false_iff_ne]; exact hoe0)
      · simp at e4
        cases h : (oe == 0)
        · exact .inr (.inr ⟨rfl, by rw [hb0]; exact e4, rfl⟩)
        · exact .inr (.inl ⟨rfl, by rw [hb0]; exact e4, rfl⟩)
    clear hMs p1 p2 p3 p4 ho0 ho1 hoe hwh hX PT hM hMl hml h8 hn hno e1 e2 e3 e4 e5 hb0 hb1
    rcases hcase with ⟨rfl, hq0, ⟨rfl, q⟩ | q⟩ | ⟨rfl, hq0, q⟩ | ⟨rfl, hq0, q⟩
    all_goals
      have HQ0 := Lib.hid hq0; clear hq0
      go_enter Try.func6, Try.ntmps6
      go_upto_region 1 with (fail)
      refine wp_gen (fun Wv => Bx Wv (w.heap.size) (26) (#[.int .i64 W, .int .i64 T]) ∧ Below w.heap.size w Wv) ⟨((Bx.at_ (by simp))), ((Below.refl _ w).alloc (by simp <;> omega) _)⟩ ?_
      rintro wa1 ⟨g5, b⟩
      replace B := B.trans (b.mono B.size); clear b
      have c_g5 := g5.cell; have f_g5 := g5.free; have a_g5 := fun o => (g5.alloc o).cell; have d_g5 := fun o o2 => ((g5.alloc o).alloc o2).cell; have e_g5 := fun o => (g5.alloc o).free
      go_wp2_with fail
      refine (C1.out _).mono ?_
      rintro e wa2 ⟨rfl, b⟩
      try clear c_g5 f_g5 a_g5 d_g5 e_g5
      replace g5 := g5.below b; have c_g5 := g5.cell; have f_g5 := g5.free; have a_g5 := fun o => (g5.alloc o).cell; have d_g5 := fun o o2 => ((g5.alloc o).alloc o2).cell; have e_g5 := fun o => (g5.alloc o).free; replace B := B.trans (b.mono B.size); clear b
      go_upto_region 3 with (fail)
      have hg := g5.lt
      have hbz := B.size
      go_wp2_with fail
      refine (WT.out _).mono ?_
      rintro e wa3 ⟨v, rfl, o, b⟩
      try clear c_g5 f_g5 a_g5 d_g5 e_g5
      replace g5 := g5.below b; have c_g5 := g5.cell; have f_g5 := g5.free; have a_g5 := fun o => (g5.alloc o).cell; have d_g5 := fun o o2 => ((g5.alloc o).alloc o2).cell; have e_g5 := fun o => (g5.alloc o).free; replace B := B.trans (b.mono B.size); clear b
      obtain ⟨ad, u0, ia, ca, fa, hb, hu, hset⟩ := own_at (P := Try.prog) o Try.underlying22 one_u64 (k := (k : Int)) (by omega) (by rw [HML.out]; omega)
      have o2 : OwnW (wa3.setCell ad (.int .u64 x.toNat)) wa2.heap.size 50 v M := by
        rw [HM.out]; exact OwnW.set (x := x) (hset (.int .u64 x.toNat))
      have g2 := g5.far (p := ad) (by omega) (.int .u64 x.toNat)
      have B2 := B.setCell (p := ad) (by omega) (.int .u64 x.toNat)
      have HH := Lib.hid (And.intro o2 (And.intro g2 B2))
      clear o2 g2 B2 o B hset hb hg hbz
      go_upto_region 7 with (fail)
      refine wp_gen (fun U => OwnW U wa2.heap.size 50 v M ∧ Bx U w.heap.size 26 #[.int .i64 W, .int .i64 T] ∧ Below w.heap.size w U) HH.out ?_
      clear HH ia ca fa hu c_g5 f_g5 a_g5 d_g5 e_g5 g5
      rintro w3 ⟨o, g5, B⟩
      have G5 := Lib.hid g5; clear g5
      have B1 : Below w3.heap.size w3 w3 := Below.refl _ _
      go_wp2_with fail
      refine (HP.out _ _ _ o.rd (H.out.below B)).mono ?_
      rintro e wa4 ⟨y, rfl, o3, b⟩
      replace o := o.below b; replace B1 := B1.trans (b.mono B1.size); replace B := B.trans (b.mono B.size); clear b
      go_wp2_with fail
      refine (RD.out _ _ (H.out.below B)).mono ?_
      rintro e wa5 ⟨rfl, b⟩
      replace o := o.below b; replace B1 := B1.trans (b.mono B1.size); replace o3 := o3.below b; replace B := B.trans (b.mono B.size); clear b
      go_upto_region 11 with (fail)
      refine wp_gen (fun Wv => Bx Wv (wa5.heap.size) (26) (#[.int .i64 o0, .int .i64 o1]) ∧ Below wa5.heap.size wa5 Wv) ⟨((Bx.at_ (by simp))), ((Below.refl _ wa5).alloc (by simp <;> omega) _)⟩ ?_
      rintro wa6 ⟨g15, b⟩
      replace o := o.below b; replace B1 := B1.trans (b.mono B1.size); replace o3 := o3.below b; replace B := B.trans (b.mono B.size); clear b
      have c_g15 := g15.cell; have f_g15 := g15.free; have a_g15 := fun o => (g15.alloc o).cell; have d_g15 := fun o o2 => ((g15.alloc o).alloc o2).cell; have e_g15 := fun o => (g15.alloc o).free
      have c_g5 := (G5.out.below B1).cell
      go_upto_region 13 with (fail)
      clear c_g15 f_g15 a_g15 d_g15 e_g15
      clear c_g5
      go_wp2_with fail
      refine (R1.out _ _ o3.rd).mono ?_
      rintro e wa7 ⟨rfl, b⟩
      replace o := o.below b; replace B1 := B1.trans (b.mono B1.size); replace o3 := o3.below b; replace B := B.trans (b.mono B.size); clear b
      go_upto_region 14 with (fail)
      refine wp_gen (fun Wv => Bx Wv (wa7.heap.size) (26) (#[.int .i64 W, .int .i64 T]) ∧ Bx Wv (wa7.heap.size + 1) (27) (#[.bool b0, .bool b1]) ∧ Below wa7.heap.size wa7 Wv) ⟨(((Bx.at_ (by simp)).alloc _)), ((Bx.at_ (by simp))), (((Below.refl _ wa7).alloc (by simp <;> omega) _).alloc (by simp <;> omega) _)⟩ ?_
      rintro wa8 ⟨g17, g18, b⟩
      replace o := o.below b; replace B1 := B1.trans (b.mono B1.size); replace o3 := o3.below b; replace B := B.trans (b.mono B.size); clear b
      have c_g17 := g17.cell; have f_g17 := g17.free; have a_g17 := fun o => (g17.alloc o).cell; have d_g17 := fun o o2 => ((g17.alloc o).alloc o2).cell; have e_g17 := fun o => (g17.alloc o).free
      have c_g18 := g18.cell; have f_g18 := g18.free; have a_g18 := fun o => (g18.alloc o).cell; have d_g18 := fun o o2 => ((g18.alloc o).alloc o2).cell; have e_g18 := fun o => (g18.alloc o).free
      go_wp2_with fail
      refine (V1.out _ _ o3.rd).mono ?_
      rintro e wa9 ⟨x4, rfl, o4, b⟩
      replace o := o.below b; replace B1 := B1.trans (b.mono B1.size); replace o3 := o3.below b; try clear c_g17 f_g17 a_g17 d_g17 e_g17
      replace g17 := g17.below b; have c_g17 := g17.cell; have f_g17 := g17.free; have a_g17 := fun o => (g17.alloc o).cell; have d_g17 := fun o o2 => ((g17.alloc o).alloc o2).cell; have e_g17 := fun o => (g17.alloc o).free; try clear c_g18 f_g18 a_g18 d_g18 e_g18
      replace g18 := g18.below b; have c_g18 := g18.cell; have f_g18 := g18.free; have a_g18 := fun o => (g18.alloc o).cell; have d_g18 := fun o o2 => ((g18.alloc o).alloc o2).cell; have e_g18 := fun o => (g18.alloc o).free; replace B := B.trans (b.mono B.size); clear b
      have c_g5 := (G5.out.below B1).cell
      have q1 := Q1.out
      have hq0 := HQ0.out
      go_wp2_with fail
      clear c_g5 q1
      refine (Same_any _ _ M M _ o4.rd o.rd).mono ?_
      rw [same_refl]
      rintro e wx ⟨rfl, qq⟩
      replace B := B.trans (qq.below.mono B.size)
      clear qq
      go_wp2_with fail
      refine (alive07_any _).mono ?_
      rintro e wx2 ⟨rfl, b⟩
      replace B := B.trans (b.mono B.size)
      go_wp2
      go_ret
      exact ⟨rfl, B⟩

theorem sup_neq7 (a b c d : Int) (r : Bool) (hr : r = !(a == c && b == d)) (W : World) : (binOp .neq 26 (.agg #[.int .i64 a, .int .i64 b]) (.agg #[.int .i64 c, .int .i64 d])).run Try.prog W = .ok (.bool r) W := by
  subst hr
  cases h : (a == c) <;> cases h2 : (b == d) <;> simp [go_sem, h, h2]

set_option maxRecDepth 100000 in
set_option maxHeartbeats 8000000 in
theorem TwinFirst_walk (W T W' T' : Int) (w : World) (f1 : -9223372036854775808 ≤ W ∧ W ≤ 9223372036854775807) (f2 : -9223372036854775808 ≤ T ∧ T ≤ 9223372036854775807) (f3 : -9223372036854775808 ≤ W' ∧ W' ≤ 9223372036854775807) (f4 : -9223372036854775808 ≤ T' ∧ T' ≤ 9223372036854775807) :
    Calls Try.prog 8 #[.agg #[.int .i64 W, .int .i64 T], .agg #[.int .i64 W', .int .i64 T']] w fun e w' => e = .returned (.bool true) ∧ Below w.heap.size w w' := by
  clear f1 f2 f3 f4
  have B : Below w.heap.size w w := Below.refl _ _
  by_cases hok : SupOk W T
  rotate_left
  · have C1 := Lib.hid (fun w => Check6R_r W T 8 (if_neg hok).symm w)
    clear hok
    go_enter Try.func8, Try.ntmps8
    go_upto_region 1 with (fail)
    refine wp_gen (fun Wv => Bx Wv (w.heap.size) (26) (#[.int .i64 W, .int .i64 T]) ∧ Bx Wv (w.heap.size + 1) (26) (#[.int .i64 W', .int .i64 T']) ∧ Below w.heap.size w Wv) ⟨(((Bx.at_ (by simp)).alloc _)), ((Bx.at_ (by simp))), (((Below.refl _ w).alloc (by simp <;> omega) _).alloc (by simp <;> omega) _)⟩ ?_
    rintro wa1 ⟨g2, g3, b⟩
    replace B := B.trans (b.mono B.size); clear b
    have c_g2 := g2.cell; have f_g2 := g2.free; have a_g2 := fun o => (g2.alloc o).cell; have d_g2 := fun o o2 => ((g2.alloc o).alloc o2).cell; have e_g2 := fun o => (g2.alloc o).free
    have c_g3 := g3.cell; have f_g3 := g3.free; have a_g3 := fun o => (g3.alloc o).cell; have d_g3 := fun o o2 => ((g3.alloc o).alloc o2).cell; have e_g3 := fun o => (g3.alloc o).free
    go_wp2_with fail
    refine (C1.out _).mono ?_
    rintro e wa2 ⟨rfl, b⟩
    try clear c_g2 f_g2 a_g2 d_g2 e_g2
    replace g2 := g2.below b; have c_g2 := g2.cell; have f_g2 := g2.free; have a_g2 := fun o => (g2.alloc o).cell; have d_g2 := fun o o2 => ((g2.alloc o).alloc o2).cell; have e_g2 := fun o => (g2.alloc o).free; try clear c_g3 f_g3 a_g3 d_g3 e_g3
    replace g3 := g3.below b; have c_g3 := g3.cell; have f_g3 := g3.free; have a_g3 := fun o => (g3.alloc o).cell; have d_g3 := fun o o2 => ((g3.alloc o).alloc o2).cell; have e_g3 := fun o => (g3.alloc o).free; replace B := B.trans (b.mono B.size); clear b
    go_wp2_with fail
    refine (alive07_any _).mono ?_
    rintro e wa3 ⟨rfl, b⟩
    try clear c_g2 f_g2 a_g2 d_g2 e_g2
    replace g2 := g2.below b; have c_g2 := g2.cell; have f_g2 := g2.free; have a_g2 := fun o => (g2.alloc o).cell; have d_g2 := fun o o2 => ((g2.alloc o).alloc o2).cell; have e_g2 := fun o => (g2.alloc o).free; try clear c_g3 f_g3 a_g3 d_g3 e_g3
    replace g3 := g3.below b; have c_g3 := g3.cell; have f_g3 := g3.free; have a_g3 := fun o => (g3.alloc o).cell; have d_g3 := fun o o2 => ((g3.alloc o).alloc o2).cell; have e_g3 := fun o => (g3.alloc o).free; replace B := B.trans (b.mono B.size); clear b
    go_wp2
    go_ret
    exact ⟨rfl, B⟩
  have C1 := Lib.hid (fun w => Check6R_r W T 0 (if_pos hok).symm w)
  by_cases hok' : SupOk W' T'
  rotate_left
  · have C2 := Lib.hid (fun w => Check6R_r W' T' 8 (if_neg hok').symm w)
    clear hok hok'
    go_enter Try.func8, Try.ntmps8
    go_upto_region 1 with (fail)
    refine wp_gen (fun Wv => Bx Wv (w.heap.size) (26) (#[.int .i64 W, .int .i64 T]) ∧ Bx Wv (w.heap.size + 1) (26) (#[.int .i64 W', .int .i64 T']) ∧ Below w.heap.size w Wv) ⟨(((Bx.at_ (by simp)).alloc _)), ((Bx.at_ (by simp))), (((Below.refl _ w).alloc (by simp <;> omega) _).alloc (by simp <;> omega) _)⟩ ?_
    rintro wa1 ⟨g2, g3, b⟩
    replace B := B.trans (b.mono B.size); clear b
    have c_g2 := g2.cell; have f_g2 := g2.free; have a_g2 := fun o => (g2.alloc o).cell; have d_g2 := fun o o2 => ((g2.alloc o).alloc o2).cell; have e_g2 := fun o => (g2.alloc o).free
    have c_g3 := g3.cell; have f_g3 := g3.free; have a_g3 := fun o => (g3.alloc o).cell; have d_g3 := fun o o2 => ((g3.alloc o).alloc o2).cell; have e_g3 := fun o => (g3.alloc o).free
    go_wp2_with fail
    refine (C1.out _).mono ?_
    rintro e wa2 ⟨rfl, b⟩
    try clear c_g2 f_g2 a_g2 d_g2 e_g2
    replace g2 := g2.below b; have c_g2 := g2.cell; have f_g2 := g2.free; have a_g2 := fun o => (g2.alloc o).cell; have d_g2 := fun o o2 => ((g2.alloc o).alloc o2).cell; have e_g2 := fun o => (g2.alloc o).free; try clear c_g3 f_g3 a_g3 d_g3 e_g3
    replace g3 := g3.below b; have c_g3 := g3.cell; have f_g3 := g3.free; have a_g3 := fun o => (g3.alloc o).cell; have d_g3 := fun o o2 => ((g3.alloc o).alloc o2).cell; have e_g3 := fun o => (g3.alloc o).free; replace B := B.trans (b.mono B.size); clear b
    go_wp2_with fail
    refine (C2.out _).mono ?_
    rintro e wa3 ⟨rfl, b⟩
    try clear c_g2 f_g2 a_g2 d_g2 e_g2
    replace g2 := g2.below b; have c_g2 := g2.cell; have f_g2 := g2.free; have a_g2 := fun o => (g2.alloc o).cell; have d_g2 := fun o o2 => ((g2.alloc o).alloc o2).cell; have e_g2 := fun o => (g2.alloc o).free; try clear c_g3 f_g3 a_g3 d_g3 e_g3
    replace g3 := g3.below b; have c_g3 := g3.cell; have f_g3 := g3.free; have a_g3 := fun o => (g3.alloc o).cell; have d_g3 := fun o o2 => ((g3.alloc o).alloc o2).cell; have e_g3 := fun o => (g3.alloc o).free; replace B := B.trans (b.mono B.size); clear b
    go_wp2_with fail
    refine (alive07_any _).mono ?_
    rintro e wa4 ⟨rfl, b⟩
    try clear c_g2 f_g2 a_g2 d_g2 e_g2
    replace g2 := g2.below b; have c_g2 := g2.cell; have f_g2 := g2.free; have a_g2 := fun o => (g2.alloc o).cell; have d_g2 := fun o o2 => ((g2.alloc o).alloc o2).cell; have e_g2 := fun o => (g2.alloc o).free; try clear c_g3 f_g3 a_g3 d_g3 e_g3
    replace g3 := g3.below b; have c_g3 := g3.cell; have f_g3 := g3.free; have a_g3 := fun o => (g3.alloc o).cell; have d_g3 := fun o o2 => ((g3.alloc o).alloc o2).cell; have e_g3 := fun o => (g3.alloc o).free; replace B := B.trans (b.mono B.size); clear b
    go_wp2
    go_ret
    exact ⟨rfl, B⟩
  have C2 := Lib.hid (fun w => Check6R_r W' T' 0 (if_pos hok').symm w)
  by_cases hWW : W = W'
  rotate_left
  · have hne : (W != W') = true := by rw [bne_iff_ne]; exact hWW
    clear hok hok' hWW
    go_enter Try.func8, Try.ntmps8
    go_upto_region 1 with (fail)
    refine wp_gen (fun Wv => Bx Wv (w.heap.size) (26) (#[.int .i64 W, .int .i64 T]) ∧ Bx Wv (w.heap.size + 1) (26) (#[.int .i64 W', .int .i64 T']) ∧ Below w.heap.size w Wv) ⟨(((Bx.at_ (by simp)).alloc _)), ((Bx.at_ (by simp))), (((Below.refl _ w).alloc (by simp <;> omega) _).alloc (by simp <;> omega) _)⟩ ?_
    rintro wa1 ⟨g2, g3, b⟩
    replace B := B.trans (b.mono B.size); clear b
    have c_g2 := g2.cell; have f_g2 := g2.free; have a_g2 := fun o => (g2.alloc o).cell; have d_g2 := fun o o2 => ((g2.alloc o).alloc o2).cell; have e_g2 := fun o => (g2.alloc o).free
    have c_g3 := g3.cell; have f_g3 := g3.free; have a_g3 := fun o => (g3.alloc o).cell; have d_g3 := fun o o2 => ((g3.alloc o).alloc o2).cell; have e_g3 := fun o => (g3.alloc o).free
    go_wp2_with fail
    refine (C1.out _).mono ?_
    rintro e wa2 ⟨rfl, b⟩
    try clear c_g2 f_g2 a_g2 d_g2 e_g2
    replace g2 := g2.below b; have c_g2 := g2.cell; have f_g2 := g2.free; have a_g2 := fun o => (g2.alloc o).cell; have d_g2 := fun o o2 => ((g2.alloc o).alloc o2).cell; have e_g2 := fun o => (g2.alloc o).free; try clear c_g3 f_g3 a_g3 d_g3 e_g3
    replace g3 := g3.below b; have c_g3 := g3.cell; have f_g3 := g3.free; have a_g3 := fun o => (g3.alloc o).cell; have d_g3 := fun o o2 => ((g3.alloc o).alloc o2).cell; have e_g3 := fun o => (g3.alloc o).free; replace B := B.trans (b.mono B.size); clear b
    go_wp2_with fail
    refine (C2.out _).mono ?_
    rintro e wa3 ⟨rfl, b⟩
    try clear c_g2 f_g2 a_g2 d_g2 e_g2
    replace g2 := g2.below b; have c_g2 := g2.cell; have f_g2 := g2.free; have a_g2 := fun o => (g2.alloc o).cell; have d_g2 := fun o o2 => ((g2.alloc o).alloc o2).cell; have e_g2 := fun o => (g2.alloc o).free; try clear c_g3 f_g3 a_g3 d_g3 e_g3
    replace g3 := g3.below b; have c_g3 := g3.cell; have f_g3 := g3.free; have a_g3 := fun o => (g3.alloc o).cell; have d_g3 := fun o o2 => ((g3.alloc o).alloc o2).cell; have e_g3 := fun o => (g3.alloc o).free; replace B := B.trans (b.mono B.size); clear b
    go_wp2_with fail
    refine (alive07_any _).mono ?_
    rintro e wa4 ⟨rfl, b⟩
    try clear c_g2 f_g2 a_g2 d_g2 e_g2
    replace g2 := g2.below b; have c_g2 := g2.cell; have f_g2 := g2.free; have a_g2 := fun o => (g2.alloc o).cell; have d_g2 := fun o o2 => ((g2.alloc o).alloc o2).cell; have e_g2 := fun o => (g2.alloc o).free; try clear c_g3 f_g3 a_g3 d_g3 e_g3
    replace g3 := g3.below b; have c_g3 := g3.cell; have f_g3 := g3.free; have a_g3 := fun o => (g3.alloc o).cell; have d_g3 := fun o o2 => ((g3.alloc o).alloc o2).cell; have e_g3 := fun o => (g3.alloc o).free; replace B := B.trans (b.mono B.size); clear b
    go_wp2
    go_ret
    exact ⟨rfl, B⟩
  subst hWW
  have W1 := Lib.hid (fun w => with_any W T hok w)
  have W2 := Lib.hid (fun w => with_any W T' hok' w)
  have hsz := made_size hok
  have hsz' := made_size hok'
  have hml := made_len hok
  have hml' := made_len hok'
  have h256 := hok.1.1
  have r0 : rng (made W T) 0 8 = 0 := rng_ok hsz ⟨by omega, by omega, by omega, by omega⟩
  have eg : L02.get (made W T) 0 8 = wordsOf W T := by
    rw [L02.get, if_pos r0, made]
    exact c0_app (len_words W T)
  have GT := fun v w h => Get_any v (made W T) 0 8 w h
  rw [eg, r0] at GT
  obtain ⟨⟨p1, p2⟩, _⟩ := put_copy hok' (M := made W T') (r := List.replicate (W.toNat - 16) 0) rfl (by rw [hml']; omega) (len_words W T)
  have PT := fun v mv w h h' => Put_any v mv (made W T') (wordsOf W T) 0 w h h'
  rw [p2, show ((wordsOf W T).length : Int) = 8 from rfl, p1] at PT
  obtain ⟨m, hm⟩ : ∃ m, m = wordsOf W T ++ (wordsOf W T' ++ List.replicate (W.toNat - 16) 0) := ⟨_, rfl⟩
  rw [← hm] at PT
  obtain ⟨e1, e2, e3, e4, e5, e6, e7, e8⟩ := first_one hok hok' hm
  obtain ⟨M, hM⟩ : ∃ M, M = made W T := ⟨_, rfl⟩
  rw [← hM] at e6 W1 GT
  obtain ⟨E, hE⟩ : ∃ E, E = heals m := ⟨_, rfl⟩
  rw [← hE] at e7 e8
  obtain ⟨n, hn⟩ : ∃ n, n = E.length := ⟨_, rfl⟩
  obtain ⟨t, ht⟩ : ∃ t : Bool, t = (T == T') := ⟨_, rfl⟩
  have hnt : ((n : Int) == 0) = t := by
    rw [ht, hn]
    cases E with
    | nil => rw [beq_iff_eq.2 (e7.1 rfl)]; rfl
    | cons x E =>
      have : ¬ T = T' := fun h => by have := e7.2 h; cases this
      rw [beq_eq_false_iff_ne.2 this, beq_eq_false_iff_ne]
      simp; omega
  have GT' := Lib.hid GT; have PT' := Lib.hid PT
  have R1 := Lib.hid (fun v w h => TRead_any v m W T true true 0 e2.symm e3.symm e4.symm e5.symm e1.symm w h)
  have V1 := Lib.hid (fun v w h => TView_any v m M 0 e6.symm e1.symm w h)
  have H1 := Lib.hid (fun v w h => THeal_any v m E 0 hE e1.symm w h)
  have HE8 := Lib.hid e8
  have HN := Lib.hid hn
  have Q1 := Lib.hid (fun U => sup_neq7 W T W T false (by simp) U)
  have Q2 := Lib.hid (fun U => bb_neq true true true true false (by simp) U)
  have Q3 := Lib.hid (fun U => sup7_eql W T W T' t (by simp [ht]) U)
  clear hsz hsz' hml hml' h256 r0 eg GT PT p1 p2 hm e1 e2 e3 e4 e5 e6 e7 e8 hM hE hn ht hok hok'
  go_enter Try.func8, Try.ntmps8
  go_upto_region 1 with (fail)
  refine wp_gen (fun Wv => Bx Wv (w.heap.size) (26) (#[.int .i64 W, .int .i64 T]) ∧ Bx Wv (w.heap.size + 1) (26) (#[.int .i64 W, .int .i64 T']) ∧ Below w.heap.size w Wv) ⟨(((Bx.at_ (by simp)).alloc _)), ((Bx.at_ (by simp))), (((Below.refl _ w).alloc (by simp <;> omega) _).alloc (by simp <;> omega) _)⟩ ?_
  rintro wa1 ⟨g2, g3, b⟩
  replace B := B.trans (b.mono B.size); clear b
  have c_g2 := g2.cell; have f_g2 := g2.free; have a_g2 := fun o => (g2.alloc o).cell; have d_g2 := fun o o2 => ((g2.alloc o).alloc o2).cell; have e_g2 := fun o => (g2.alloc o).free
  have c_g3 := g3.cell; have f_g3 := g3.free; have a_g3 := fun o => (g3.alloc o).cell; have d_g3 := fun o o2 => ((g3.alloc o).alloc o2).cell; have e_g3 := fun o => (g3.alloc o).free
  go_wp2_with fail
  refine (C1.out _).mono ?_
  rintro e wa2 ⟨rfl, b⟩
  try clear c_g2 f_g2 a_g2 d_g2 e_g2
  replace g2 := g2.below b; have c_g2 := g2.cell; have f_g2 := g2.free; have a_g2 := fun o => (g2.alloc o).cell; have d_g2 := fun o o2 => ((g2.alloc o).alloc o2).cell; have e_g2 := fun o => (g2.alloc o).free; try clear c_g3 f_g3 a_g3 d_g3 e_g3
  replace g3 := g3.below b; have c_g3 := g3.cell; have f_g3 := g3.free; have a_g3 := fun o => (g3.alloc o).cell; have d_g3 := fun o o2 => ((g3.alloc o).alloc o2).cell; have e_g3 := fun o => (g3.alloc o).free; replace B := B.trans (b.mono B.size); clear b
  go_wp2_with fail
  refine (C2.out _).mono ?_
  rintro e wa3 ⟨rfl, b⟩
  try clear c_g2 f_g2 a_g2 d_g2 e_g2
  replace g2 := g2.below b; have c_g2 := g2.cell; have f_g2 := g2.free; have a_g2 := fun o => (g2.alloc o).cell; have d_g2 := fun o o2 => ((g2.alloc o).alloc o2).cell; have e_g2 := fun o => (g2.alloc o).free; try clear c_g3 f_g3 a_g3 d_g3 e_g3
  replace g3 := g3.below b; have c_g3 := g3.cell; have f_g3 := g3.free; have a_g3 := fun o => (g3.alloc o).cell; have d_g3 := fun o o2 => ((g3.alloc o).alloc o2).cell; have e_g3 := fun o => (g3.alloc o).free; replace B := B.trans (b.mono B.size); clear b
  go_wp2_with fail
  refine (W1.out _).mono ?_
  rintro e wa4 ⟨v, rfl, o1, b⟩
  try clear c_g2 f_g2 a_g2 d_g2 e_g2
  replace g2 := g2.below b; have c_g2 := g2.cell; have f_g2 := g2.free; have a_g2 := fun o => (g2.alloc o).cell; have d_g2 := fun o o2 => ((g2.alloc o).alloc o2).cell; have e_g2 := fun o => (g2.alloc o).free; try clear c_g3 f_g3 a_g3 d_g3 e_g3
  replace g3 := g3.below b; have c_g3 := g3.cell; have f_g3 := g3.free; have a_g3 := fun o => (g3.alloc o).cell; have d_g3 := fun o o2 => ((g3.alloc o).alloc o2).cell; have e_g3 := fun o => (g3.alloc o).free; replace B := B.trans (b.mono B.size); clear b
  go_wp2_with fail
  refine (W2.out _).mono ?_
  rintro e wa5 ⟨v', rfl, o2, b⟩
  try clear c_g2 f_g2 a_g2 d_g2 e_g2
  replace g2 := g2.below b; have c_g2 := g2.cell; have f_g2 := g2.free; have a_g2 := fun o => (g2.alloc o).cell; have d_g2 := fun o o2 => ((g2.alloc o).alloc o2).cell; have e_g2 := fun o => (g2.alloc o).free; try clear c_g3 f_g3 a_g3 d_g3 e_g3
  replace g3 := g3.below b; have c_g3 := g3.cell; have f_g3 := g3.free; have a_g3 := fun o => (g3.alloc o).cell; have d_g3 := fun o o2 => ((g3.alloc o).alloc o2).cell; have e_g3 := fun o => (g3.alloc o).free; replace o1 := o1.below b; replace B := B.trans (b.mono B.size); clear b
  go_wp2_with fail
  refine (GT'.out _ _ o1.rd).mono ?_
  rintro e wa6 ⟨x, rfl, o3, b⟩
  try clear c_g2 f_g2 a_g2 d_g2 e_g2
  replace g2 := g2.below b; have c_g2 := g2.cell; have f_g2 := g2.free; have a_g2 := fun o => (g2.alloc o).cell; have d_g2 := fun o o2 => ((g2.alloc o).alloc o2).cell; have e_g2 := fun o => (g2.alloc o).free; try clear c_g3 f_g3 a_g3 d_g3 e_g3
  replace g3 := g3.below b; have c_g3 := g3.cell; have f_g3 := g3.free; have a_g3 := fun o => (g3.alloc o).cell; have d_g3 := fun o o2 => ((g3.alloc o).alloc o2).cell; have e_g3 := fun o => (g3.alloc o).free; replace o1 := o1.below b; replace o2 := o2.below b; replace B := B.trans (b.mono B.size); clear b
  go_wp2_with fail
  refine (PT'.out _ _ _ o2.rd o3.rd).mono ?_
  rintro e wa7 ⟨y, rfl, o4, b⟩
  try clear c_g2 f_g2 a_g2 d_g2 e_g2
  replace g2 := g2.below b; have c_g2 := g2.cell; have f_g2 := g2.free; have a_g2 := fun o => (g2.alloc o).cell; have d_g2 := fun o o2 => ((g2.alloc o).alloc o2).cell; have e_g2 := fun o => (g2.alloc o).free; try clear c_g3 f_g3 a_g3 d_g3 e_g3
  replace g3 := g3.below b; have c_g3 := g3.cell; have f_g3 := g3.free; have a_g3 := fun o => (g3.alloc o).cell; have d_g3 := fun o o2 => ((g3.alloc o).alloc o2).cell; have e_g3 := fun o => (g3.alloc o).free; replace o1 := o1.below b; replace o2 := o2.below b; replace o3 := o3.below b; replace B := B.trans (b.mono B.size); clear b
  clear o2 o3
  go_wp2_with fail
  refine (R1.out _ _ o4.rd).mono ?_
  rintro e wa8 ⟨rfl, b⟩
  try clear c_g2 f_g2 a_g2 d_g2 e_g2
  replace g2 := g2.below b; have c_g2 := g2.cell; have f_g2 := g2.free; have a_g2 := fun o => (g2.alloc o).cell; have d_g2 := fun o o2 => ((g2.alloc o).alloc o2).cell; have e_g2 := fun o => (g2.alloc o).free; try clear c_g3 f_g3 a_g3 d_g3 e_g3
  replace g3 := g3.below b; have c_g3 := g3.cell; have f_g3 := g3.free; have a_g3 := fun o => (g3.alloc o).cell; have d_g3 := fun o o2 => ((g3.alloc o).alloc o2).cell; have e_g3 := fun o => (g3.alloc o).free; replace o1 := o1.below b; replace o4 := o4.below b; replace B := B.trans (b.mono B.size); clear b
  go_upto_region 12 with (fail)
  refine wp_gen (fun Wv => Bx Wv (wa8.heap.size) (26) (#[.int .i64 W, .int .i64 T]) ∧ Bx Wv (wa8.heap.size + 1) (27) (#[.bool true, .bool true]) ∧ Below wa8.heap.size wa8 Wv) ⟨(((Bx.at_ (by simp)).alloc _)), ((Bx.at_ (by simp))), (((Below.refl _ wa8).alloc (by simp <;> omega) _).alloc (by simp <;> omega) _)⟩ ?_
  rintro wa9 ⟨g13, g14, b⟩
  try clear c_g2 f_g2 a_g2 d_g2 e_g2
  replace g2 := g2.below b; have c_g2 := g2.cell; have f_g2 := g2.free; have a_g2 := fun o => (g2.alloc o).cell; have d_g2 := fun o o2 => ((g2.alloc o).alloc o2).cell; have e_g2 := fun o => (g2.alloc o).free; try clear c_g3 f_g3 a_g3 d_g3 e_g3
  replace g3 := g3.below b; have c_g3 := g3.cell; have f_g3 := g3.free; have a_g3 := fun o => (g3.alloc o).cell; have d_g3 := fun o o2 => ((g3.alloc o).alloc o2).cell; have e_g3 := fun o => (g3.alloc o).free; replace o1 := o1.below b; replace o4 := o4.below b; replace B := B.trans (b.mono B.size); clear b
  have c_g13 := g13.cell; have f_g13 := g13.free; have a_g13 := fun o => (g13.alloc o).cell; have d_g13 := fun o o2 => ((g13.alloc o).alloc o2).cell; have e_g13 := fun o => (g13.alloc o).free
  have c_g14 := g14.cell; have f_g14 := g14.free; have a_g14 := fun o => (g14.alloc o).cell; have d_g14 := fun o o2 => ((g14.alloc o).alloc o2).cell; have e_g14 := fun o => (g14.alloc o).free
  have G2 := Lib.hid g2; have G3 := Lib.hid g3; have G13 := Lib.hid g13; have G14 := Lib.hid g14
  have B1 : Below wa9.heap.size wa9 wa9 := Below.refl _ _
  clear g2 g3 g13 g14 c_g2 f_g2 a_g2 d_g2 e_g2 c_g3 f_g3 a_g3 d_g3 e_g3 c_g13 f_g13 a_g13 d_g13 e_g13 c_g14 f_g14 a_g14 d_g14 e_g14
  go_wp2_with fail
  refine (V1.out _ _ o4.rd).mono ?_
  rintro e wa10 ⟨x5, rfl, o5, b⟩
  replace o1 := o1.below b; replace o4 := o4.below b; replace B1 := B1.trans (b.mono B1.size); replace B := B.trans (b.mono B.size); clear b
  go_wp2_with fail
  refine (H1.out _ _ o4.rd).mono ?_
  rintro e wa11 ⟨x6, rfl, o6, b⟩
  replace o1 := o1.below b; replace o4 := o4.below b; replace B1 := B1.trans (b.mono B1.size); replace o5 := o5.below b; replace B := B.trans (b.mono B.size); clear b
  have l6 := Rd.len o6.rd Try.underlying37
  rw [← HN.out] at l6
  have hle := Rd.len_le o6.rd
  rw [← HN.out] at hle
  have c2 := (G2.out.below B1).cell; have c3 := (G3.out.below B1).cell; have c13 := (G13.out.below B1).cell; have c14 := (G14.out.below B1).cell
  have q1 := Q1.out; have q2 := Q2.out
  go_wp2_with fail
  clear c2 c3 c13 c14 q1 q2
  refine (Same_any _ _ M M _ o5.rd o1.rd).mono ?_
  rw [same_refl]
  rintro e wx ⟨rfl, qq⟩
  replace B1 := B1.trans (qq.below.mono B1.size); replace o6 := o6.below qq.below
  have HB := Lib.hid B
  have c2 := (G2.out.below B1).cell; have c3 := (G3.out.below B1).cell
  have q3 := Q3.out
  have O6 := Lib.hid o6.rd
  have BB := Lib.hid (B.trans (qq.below.mono B.size))
  clear qq o1 o4 o5 o6 B HB
  go_upto_region 17 with (fail)
  clear c2 c3 q3
  go_loopg [20] n (fun g i wr => wx = wr ∧ ∃ k : Nat, k ≤ n ∧ g = n - k ∧ i = .int .i64 k)
  case atStart => exact ⟨rfl, 0, by omega, by omega, rfl⟩
  case round =>
    obtain ⟨rfl, k, hk, rfl, rfl⟩ := hrel
    by_cases hlt : k < n
    · obtain ⟨bb, oo, a, y, ia, m0, m1, hh⟩ := O6.out.at_ (k := k) (by have := HN.out; omega)
      have h8 := HE8.out a y k hh.out
      obtain ⟨h8a, h8b⟩ := h8
      clear hh
      go_wp2
      go_roundg (n - (k + 1))
      case measure => omega
      case rel => exact ⟨rfl, k + 1, by omega, rfl, by go_num⟩
    · obtain rfl : k = n := by omega
      go_wp2_with fail
      refine (alive07_any _).mono ?_
      rintro e wx2 ⟨rfl, b⟩
      have B2 := BB.out.trans (b.mono BB.out.size)
      clear b
      go_wp2
      go_ret
      exact ⟨rfl, B2⟩
end Go.Proofs.Ytcfohfphhpmmdaa
