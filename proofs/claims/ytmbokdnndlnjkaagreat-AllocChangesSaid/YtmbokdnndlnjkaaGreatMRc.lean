/- Contracts of the functions that the laws 'R' reach, part 3. No condition. -/
import Derived.Test.YtmbokdnndlnjkaaGreatMRb
set_option linter.unusedVariables false
set_option linter.unusedSimpArgs false
namespace Go.Proofs.YtmbokdnndlnjkaaGreat
open Go.RowKit L01 L02 L05 L14
set_option maxHeartbeats 1000000 in
theorem HCheckR_any (b : Hb) (r : Int) (hr : r = hErr b) (w : World) : Calls Tryz.prog 169 #[.agg #[.int .i64 b.at_, .int .i64 b.size, .int .i64 b.kind, .int .i64 b.ty, .bool b.mark, .int .u64 b.next.toNat]] w fun e w' => e = .returned (.int .i64 r) ∧ Below w.heap.size w w' := by
  have HB := Lib.hid hr; clear hr
  obtain ⟨at_, size, kind, ty, mark, next⟩ := b
  dsimp only at *
  cases mark
  all_goals
    go_enter Tryz.func169, Tryz.ntmps169
    go_wp2
    all_goals
      go_ret
      refine ⟨ret_int ?_, (Below.refl _ _).alloc (Nat.le_refl _) _⟩
      rw [HB.out]
      try simp only [Bool.not_eq_true', Bool.not_eq_false', decide_eq_true_eq, decide_eq_false_iff_not, beq_eq_false_iff_ne, beq_iff_eq, bne_iff_ne, bne_eq_false_iff_eq, ne_eq] at *
      first
      | exact (hErr_ok (by simp [BkOk, ObjB, FreeB]; try omega)).symm
      | exact (hErr_no (by simp [BkOk, ObjB, FreeB]; try omega)).symm
theorem val_mod (x f n : Nat) : val x f n = x / 2 ^ f % 2 ^ n := rfl
set_option maxRecDepth 100000 in
theorem PartR32_any (v : Value) (l : List UInt64) (r : Nat) (hr : r = (sum l).toNat % 4294967296) (hl : l.length ≤ 2048) (w : World) (h : Words w v l) :
    Calls Tryz.prog 132 #[v, .int .i64 32] w fun e w' => e = .returned (.int .u64 (r : Int)) ∧ Below w.heap.size w w' := by
  obtain ⟨S, hS⟩ : ∃ S, S = sum l := ⟨_, rfl⟩
  rw [← hS] at hr
  have hsl := toNat_lt S
  have VT := Lib.hid (fun w => Value_any S.toNat 0 32 r (by rw [hr, val_mod]; omega) w (by omega) (by omega) (by omega))
  have HO : Hid (∀ w, Words w v l → Calls Tryz.prog 152 #[v] w fun e w' => e = .returned (.int .u64 S.toNat) ∧ Below w.heap.size w w') := by
    rw [hS]; exact Lib.hid (fun w h => SumR_any v l w h (by omega))
  have B : Below w.heap.size w w := Below.refl _ _
  have H := Lib.hid h; clear h hr hS
  go_enter Tryz.func132, Tryz.ntmps132
  go_wp2_with fail
  refine (HO.out _ (H.out.below B)).mono ?_
  rintro e wa1 ⟨rfl, b⟩
  replace B := B.trans (b.mono B.size); clear b
  go_wp2_with fail
  refine (VT.out _).mono ?_
  rintro e w' ⟨rfl, rfl⟩
  go_wp2
  go_ret
  exact ⟨rfl, B⟩
theorem wth_plain {w f k v : Nat} (hw : w < 2 ^ f) (hv : v < 2 ^ k) : wth w f k v = w + v * 2 ^ f := by
  have h1 : w < 2 ^ (f + k) := Nat.lt_of_lt_of_le hw (Nat.pow_le_pow_right (by omega) (by omega))
  rw [wth, Nat.div_eq_of_lt h1, Nat.mod_eq_of_lt hw, Nat.mod_eq_of_lt hv]; omega
set_option maxRecDepth 100000 in
set_option maxHeartbeats 1000000 in
theorem WordHR_any (b : Hb) (hb : BkOk b) (v : UInt64) (hv : v = word b) (w : World) :
    Calls Tryz.prog 81 #[.int .i64 b.kind, .bool b.mark, .int .i64 b.ty, .int .i64 b.size] w fun e w' => e = .returned (.int .u64 v.toNat) ∧ Below w.heap.size w w' := by
  have B : Below w.heap.size w w := Below.refl _ _
  obtain ⟨h1, h2, h3, h4, h5, h6⟩ := hb.bounds
  have hn := word_nat hb
  rw [← hv] at hn
  have hlt := lowN_lt hb
  obtain ⟨lw, hlw⟩ : ∃ lw, lw = lowN b := ⟨_, rfl⟩
  rw [wordN, ← hlw] at hn
  rw [← hlw] at hlt
  obtain ⟨x, hx⟩ : ∃ x : UInt64, x = UInt64.ofNat lw := ⟨_, rfl⟩
  have hxn : x.toNat = lw := by rw [hx, UInt64.toNat_ofNat', Nat.mod_eq_of_lt (by omega)]
  rw [← hx] at hn
  obtain ⟨p, hp⟩ : ∃ p, p = partN x := ⟨_, rfl⟩
  have hpl : p < 4294967296 := by rw [hp]; exact part_lt x
  rw [← hp] at hn
  have PT := Lib.hid (fun v w h => PartR32_any v [x] p hp (by simp) w h)
  obtain ⟨at_, size, kind, ty, mark, next⟩ := b
  dsimp only at *
  obtain ⟨S, rfl⟩ := Int.eq_ofNat_of_zero_le (show 0 ≤ size by omega)
  obtain ⟨K, rfl⟩ := Int.eq_ofNat_of_zero_le (show 0 ≤ kind by omega)
  obtain ⟨T, rfl⟩ := Int.eq_ofNat_of_zero_le h5
  have w1 : IntKind.u64.wrap (K : Int) = K := by rw [wrap_u64]; omega
  have w2 : IntKind.u64.wrap (T : Int) = T := by rw [wrap_u64]; omega
  have w3 : IntKind.u64.wrap (S : Int) = S := by rw [wrap_u64]; omega
  have hw5 : v.toNat = wth lw 32 32 p := by rw [wth_plain (by omega) (by omega), hn]
  have A5 := Lib.hid (fun w => With_any lw 32 32 p v.toNat hw5 w (by omega) (by omega) (by omega) (by omega))
  have A1 := Lib.hid (fun w => With_any 0 0 8 K K (by rw [wth_plain (by omega) (by omega)]; omega) w (by omega) (by omega) (by omega) (by omega))
  clear hv hb hn hx hp hw5
  cases mark
  · have e3 : lw = K + T * 512 + S * 65536 := by rw [hlw, lowN, mk1]; simp
    have A3 := Lib.hid (fun w => With_any K 9 7 T (K + T * 512) (by rw [wth_plain (by omega) (by omega)]) w (by omega) (by omega) (by omega) (by omega))
    have A4 := Lib.hid (fun w => With_any (K + T * 512) 16 16 S lw (by rw [wth_plain (by omega) (by omega), e3]) w (by omega) (by omega) (by omega) (by omega))
    have HX := Lib.hid hxn
    clear hlw e3 hxn
    go_enter Tryz.func81, Tryz.ntmps81
    go_wp2_with fail
    refine (A1.out _).mono ?_
    rintro e w' ⟨rfl, rfl⟩
    go_wp2_with fail
    refine (A3.out _).mono ?_
    rintro e w' ⟨rfl, rfl⟩
    go_wp2_with fail
    refine (A4.out _).mono ?_
    rintro e w' ⟨rfl, rfl⟩
    go_wp2_with fail
    refine (PT.out _ _ (by rw [← HX.out]; exact lit_one x rfl)).mono ?_
    rintro e w' ⟨rfl, b⟩
    replace B := (B.alloc B.size _).trans (b.mono (by simp))
    go_wp2_with fail
    refine (A5.out _).mono ?_
    rintro e w' ⟨rfl, rfl⟩
    go_wp2
    go_ret
    exact ⟨rfl, B⟩
  · have e3 : lw = K + 256 + T * 512 + S * 65536 := by rw [hlw, lowN, mk1]; simp
    have A2 := Lib.hid (fun w => With_any K 8 1 1 (K + 256) (by rw [wth_plain (by omega) (by omega)]) w (by omega) (by omega) (by omega) (by omega))
    have A3 := Lib.hid (fun w => With_any (K + 256) 9 7 T (K + 256 + T * 512) (by rw [wth_plain (by omega) (by omega)]) w (by omega) (by omega) (by omega) (by omega))
    have A4 := Lib.hid (fun w => With_any (K + 256 + T * 512) 16 16 S lw (by rw [wth_plain (by omega) (by omega), e3]) w (by omega) (by omega) (by omega) (by omega))
    have HX := Lib.hid hxn
    clear hlw e3 hxn
    go_enter Tryz.func81, Tryz.ntmps81
    go_wp2_with fail
    refine (A1.out _).mono ?_
    rintro e w' ⟨rfl, rfl⟩
    go_wp2_with fail
    refine (A2.out _).mono ?_
    rintro e w' ⟨rfl, rfl⟩
    go_wp2_with fail
    refine (A3.out _).mono ?_
    rintro e w' ⟨rfl, rfl⟩
    go_wp2_with fail
    refine (A4.out _).mono ?_
    rintro e w' ⟨rfl, rfl⟩
    go_wp2_with fail
    refine (PT.out _ _ (by rw [← HX.out]; exact lit_one x rfl)).mono ?_
    rintro e w' ⟨rfl, b⟩
    replace B := (B.alloc B.size _).trans (b.mono (by simp))
    go_wp2_with fail
    refine (A5.out _).mono ?_
    rintro e w' ⟨rfl, rfl⟩
    go_wp2
    go_ret
    exact ⟨rfl, B⟩
set_option maxRecDepth 100000 in
theorem OfHR_any (b : Hb) (hb : BkOk b) (v : UInt64) (hv : v = word b) (w : World) :
    Calls Tryz.prog 64 #[.agg #[.int .i64 b.at_, .int .i64 b.size, .int .i64 b.kind, .int .i64 b.ty, .bool b.mark, .int .u64 b.next.toNat]] w fun e w' => e = .returned (.int .u64 v.toNat) ∧ Below w.heap.size w w' := by
  have B : Below w.heap.size w w := Below.refl _ _
  have WT := Lib.hid (fun w => WordHR_any b hb v hv w)
  clear hb hv
  go_enter Tryz.func64, Tryz.ntmps64
  go_upto_region 1 with (fail)
  refine wp_gen (fun Wv => Bx Wv (w.heap.size) (82) (#[.int .i64 b.at_, .int .i64 b.size, .int .i64 b.kind, .int .i64 b.ty, .bool b.mark, .int .u64 b.next.toNat]) ∧ Below w.heap.size w Wv) ⟨((Bx.at_ (by simp))), ((Below.refl _ w).alloc (by simp <;> omega) _)⟩ ?_
  rintro wa1 ⟨g1, b⟩
  replace B := B.trans (b.mono B.size); clear b
  have c_g1 := g1.cell; have f_g1 := g1.free; have a_g1 := fun o => (g1.alloc o).cell; have d_g1 := fun o o2 => ((g1.alloc o).alloc o2).cell; have e_g1 := fun o => (g1.alloc o).free
  go_wp2_with fail
  refine (WT.out _).mono ?_
  rintro e wa2 ⟨rfl, b⟩
  try clear c_g1 f_g1 a_g1 d_g1 e_g1
  replace g1 := g1.below b; have c_g1 := g1.cell; have f_g1 := g1.free; have a_g1 := fun o => (g1.alloc o).cell; have d_g1 := fun o o2 => ((g1.alloc o).alloc o2).cell; have e_g1 := fun o => (g1.alloc o).free; replace B := B.trans (b.mono B.size); clear b
  go_wp2
  go_ret
  exact ⟨rfl, B⟩
set_option maxRecDepth 100000 in
set_option maxHeartbeats 1000000 in
theorem HSplitR_any (x : UInt64) (b : Hb) (r : Bool) (hb : b = split x) (hr : r = decide (HdOk x)) (w : World) :
    Calls Tryz.prog 157 #[.int .u64 x.toNat] w fun e w' => e = .returned (.tuple #[.agg #[.int .i64 b.at_, .int .i64 b.size, .int .i64 b.kind, .int .i64 b.ty, .bool b.mark, .int .u64 b.next.toNat], .bool r]) ∧ Below w.heap.size w w' := by
  have B : Below w.heap.size w w := Below.refl _ _
  have hxl := toNat_lt x
  obtain ⟨t, ht⟩ : ∃ t, t = told x := ⟨_, rfl⟩
  obtain ⟨v, hv⟩ : ∃ v, v = word t := ⟨_, rfl⟩
  obtain ⟨e, he⟩ : ∃ e, e = hErr t := ⟨_, rfl⟩
  obtain ⟨V1, hV1⟩ : ∃ V, V = x.toNat % 256 := ⟨_, rfl⟩
  obtain ⟨V2, hV2⟩ : ∃ V, V = x.toNat / 256 % 2 := ⟨_, rfl⟩
  obtain ⟨V3, hV3⟩ : ∃ V, V = x.toNat / 512 % 128 := ⟨_, rfl⟩
  obtain ⟨V4, hV4⟩ : ∃ V, V = x.toNat / 65536 % 65536 := ⟨_, rfl⟩
  have A1 := Lib.hid (fun w => Value_any x.toNat 0 8 V1 (by rw [val_mod, hV1]; omega) w (by omega) (by omega) (by omega))
  have A2 := Lib.hid (fun w => Value_any x.toNat 8 1 V2 (by rw [val_mod, hV2]) w (by omega) (by omega) (by omega))
  have A3 := Lib.hid (fun w => Value_any x.toNat 9 7 V3 (by rw [val_mod, hV3]) w (by omega) (by omega) (by omega))
  have A4 := Lib.hid (fun w => Value_any x.toNat 16 16 V4 (by rw [val_mod, hV4]) w (by omega) (by omega) (by omega))
  have CT := Lib.hid (fun w => HCheckR_any t e he w)
  have hcase : (e = 0 ∧ BkOk t ∧ v = x ∧ b = t ∧ r = true) ∨ (e ≠ 0 ∧ b = .none ∧ r = false) ∨ (e = 0 ∧ BkOk t ∧ v ≠ x ∧ b = .none ∧ r = false) := by
    by_cases hk : BkOk t
    · by_cases hw : v = x
      · have hd : HdOk x := ⟨by rw [← ht]; exact hk, by rw [← ht, ← hv]; exact hw⟩
        exact .inl ⟨by rw [he, hErr_ok hk], hk, hw, by rw [hb, split_told hd, ht], by rw [hr, decide_eq_true hd]⟩
      · have hd : ¬ HdOk x := fun h => hw (by rw [hv, ht]; exact h.2)
        exact .inr (.inr ⟨by rw [he, hErr_ok hk], hk, hw, by rw [hb, split, if_neg hd], by rw [hr, decide_eq_false hd]⟩)
    · have hd : ¬ HdOk x := fun h => hk (by rw [ht]; exact h.1)
      exact .inr (.inl ⟨by rw [he, hErr_no hk]; decide, by rw [hb, split, if_neg hd], by rw [hr, decide_eq_false hd]⟩)
  have OT := Lib.hid (fun hk w => OfHR_any t hk v hv w)
  have t1 : t.kind = (V1 : Int) := by rw [ht, hV1]; rfl
  have t3 : t.ty = (V3 : Int) := by rw [ht, hV3]; rfl
  have t4 : t.size = (V4 : Int) := by rw [ht, hV4]; rfl
  have t2 : ((V2 : Int) == 1) = t.mark := by
    rw [ht, Bool.eq_iff_iff, beq_iff_eq]
    show _ ↔ decide (x.toNat / 256 % 2 = 1) = true
    rw [decide_eq_true_iff]; omega
  have t5 : t.at_ = 0 := by rw [ht]; rfl
  have t6 : t.next = 0 := by rw [ht]; rfl
  have i1 : IntKind.i64.wrap (V1 : Int) = (V1 : Int) := IntWalk.i64_in _ (by omega)
  have i3 : IntKind.i64.wrap (V3 : Int) = (V3 : Int) := IntWalk.i64_in _ (by omega)
  have i4 : IntKind.i64.wrap (V4 : Int) = (V4 : Int) := IntWalk.i64_in _ (by omega)
  obtain ⟨at_, size, kind, ty, mark, next⟩ := t
  dsimp only at t1 t2 t3 t4 t5 t6
  subst t5; subst t6; subst t1; subst t3; subst t4
  have CT' : Hid (∀ w, Calls Tryz.prog 169 #[.agg #[.int .i64 0, .int .i64 V4, .int .i64 V1, .int .i64 V3, .bool mark, .int .u64 0]] w fun e_1 w' => e_1 = .returned (.int .i64 e) ∧ Below w.heap.size w w') := CT
  have OT' : Hid (BkOk ⟨0, V4, V1, V3, mark, 0⟩ → ∀ w, Calls Tryz.prog 64 #[.agg #[.int .i64 0, .int .i64 V4, .int .i64 V1, .int .i64 V3, .bool mark, .int .u64 0]] w fun e_1 w' => e_1 = .returned (.int .u64 v.toNat) ∧ Below w.heap.size w w') := OT
  clear ht hv he hb hr CT OT hV1 hV2 hV3 hV4
  go_enter Tryz.func157, Tryz.ntmps157
  go_wp2_with fail
  refine (A1.out _).mono ?_
  rintro e w' ⟨rfl, rfl⟩
  go_wp2_with fail
  refine (A2.out _).mono ?_
  rintro e w' ⟨rfl, rfl⟩
  go_wp2_with fail
  refine (A3.out _).mono ?_
  rintro e w' ⟨rfl, rfl⟩
  go_wp2_with fail
  refine (A4.out _).mono ?_
  rintro e w' ⟨rfl, rfl⟩
  go_upto_region 2 with (fail)
  refine wp_gen (fun Wv => Bx Wv (w.heap.size) (82) (#[.int .i64 0, .int .i64 0, .int .i64 0, .int .i64 0, .bool false, .int .u64 0]) ∧ Bx Wv (w.heap.size + 1) (82) (#[.int .i64 0, .int .i64 V4, .int .i64 V1, .int .i64 V3, .bool mark, .int .u64 0]) ∧ Below w.heap.size w Wv) ⟨(((Bx.at_ (by simp)).alloc _)), ((Bx.at_ (by simp))), (((Below.refl _ w).alloc (by simp <;> omega) _).alloc (by simp <;> omega) _)⟩ ?_
  rintro wa1 ⟨g1, g2, b⟩
  replace B := B.trans (b.mono B.size); clear b
  have c_g1 := g1.cell; have f_g1 := g1.free; have a_g1 := fun o => (g1.alloc o).cell; have d_g1 := fun o o2 => ((g1.alloc o).alloc o2).cell; have e_g1 := fun o => (g1.alloc o).free
  have c_g2 := g2.cell; have f_g2 := g2.free; have a_g2 := fun o => (g2.alloc o).cell; have d_g2 := fun o o2 => ((g2.alloc o).alloc o2).cell; have e_g2 := fun o => (g2.alloc o).free
  go_wp2_with fail
  refine (CT'.out _).mono ?_
  rintro e wa2 ⟨rfl, b⟩
  try clear c_g1 f_g1 a_g1 d_g1 e_g1
  replace g1 := g1.below b; have c_g1 := g1.cell; have f_g1 := g1.free; have a_g1 := fun o => (g1.alloc o).cell; have d_g1 := fun o o2 => ((g1.alloc o).alloc o2).cell; have e_g1 := fun o => (g1.alloc o).free; try clear c_g2 f_g2 a_g2 d_g2 e_g2
  replace g2 := g2.below b; have c_g2 := g2.cell; have f_g2 := g2.free; have a_g2 := fun o => (g2.alloc o).cell; have d_g2 := fun o o2 => ((g2.alloc o).alloc o2).cell; have e_g2 := fun o => (g2.alloc o).free; replace B := B.trans (b.mono B.size); clear b
  rcases hcase with ⟨rfl, hk, rfl, rfl, rfl⟩ | ⟨h1, rfl, rfl⟩ | ⟨rfl, hk, h1, rfl, rfl⟩
  · have HK := Lib.hid hk; clear hk
    go_wp2_with fail
    refine (OT'.out HK.out _).mono ?_
    rintro e wa3 ⟨rfl, b⟩
    try clear c_g1 f_g1 a_g1 d_g1 e_g1
    replace g1 := g1.below b; have c_g1 := g1.cell; have f_g1 := g1.free; have a_g1 := fun o => (g1.alloc o).cell; have d_g1 := fun o o2 => ((g1.alloc o).alloc o2).cell; have e_g1 := fun o => (g1.alloc o).free; try clear c_g2 f_g2 a_g2 d_g2 e_g2
    replace g2 := g2.below b; have c_g2 := g2.cell; have f_g2 := g2.free; have a_g2 := fun o => (g2.alloc o).cell; have d_g2 := fun o o2 => ((g2.alloc o).alloc o2).cell; have e_g2 := fun o => (g2.alloc o).free; replace B := B.trans (b.mono B.size); clear b
    go_wp2
    refine bodyPost_ret (v := .tuple #[.agg #[.int .i64 0, .int .i64 V4, .int .i64 V1, .int .i64 V3, .bool mark, .int .u64 0], .bool true]) (by simp [results, Tryz.results157, go_sem, c_g1, f_g1, a_g1, e_g1, c_g2, f_g2, a_g2, e_g2]) rfl ?_
    refine ⟨rfl, ?_⟩
    (repeat (first | refine Below.setCell ?_ (by first | exact Nat.le_refl _ | (simp <;> omega)) _ | refine Below.alloc ?_ (by first | exact B.size | (have := B.size; simp <;> omega)) _)); exact B
  · have n1 : (e != 0) = true := by rw [bne_iff_ne]; exact h1
    go_wp2
    refine bodyPost_ret (v := .tuple #[.agg #[.int .i64 0, .int .i64 0, .int .i64 0, .int .i64 0, .bool false, .int .u64 0], .bool false]) (by simp [results, Tryz.results157, go_sem, c_g1, f_g1, a_g1, e_g1, c_g2, f_g2, a_g2, e_g2]) rfl ?_
    refine ⟨rfl, ?_⟩
    (repeat (first | refine Below.setCell ?_ (by first | exact Nat.le_refl _ | (simp <;> omega)) _ | refine Below.alloc ?_ (by first | exact B.size | (have := B.size; simp <;> omega)) _)); exact B
  · have n1 : ((v.toNat : Int) != (x.toNat : Int)) = true := by rw [bne_iff_ne]; intro e; exact h1 (UInt64.toNat.inj (by omega))
    have HK := Lib.hid hk; clear hk
    go_wp2_with fail
    refine (OT'.out HK.out _).mono ?_
    rintro e wa4 ⟨rfl, b⟩
    try clear c_g1 f_g1 a_g1 d_g1 e_g1
    replace g1 := g1.below b; have c_g1 := g1.cell; have f_g1 := g1.free; have a_g1 := fun o => (g1.alloc o).cell; have d_g1 := fun o o2 => ((g1.alloc o).alloc o2).cell; have e_g1 := fun o => (g1.alloc o).free; try clear c_g2 f_g2 a_g2 d_g2 e_g2
    replace g2 := g2.below b; have c_g2 := g2.cell; have f_g2 := g2.free; have a_g2 := fun o => (g2.alloc o).cell; have d_g2 := fun o o2 => ((g2.alloc o).alloc o2).cell; have e_g2 := fun o => (g2.alloc o).free; replace B := B.trans (b.mono B.size); clear b
    go_wp2
    refine bodyPost_ret (v := .tuple #[.agg #[.int .i64 0, .int .i64 0, .int .i64 0, .int .i64 0, .bool false, .int .u64 0], .bool false]) (by simp [results, Tryz.results157, go_sem, c_g1, f_g1, a_g1, e_g1, c_g2, f_g2, a_g2, e_g2]) rfl ?_
    refine ⟨rfl, ?_⟩
    (repeat (first | refine Below.setCell ?_ (by first | exact Nat.le_refl _ | (simp <;> omega)) _ | refine Below.alloc ?_ (by first | exact B.size | (have := B.size; simp <;> omega)) _)); exact B
end Go.Proofs.YtmbokdnndlnjkaaGreat
namespace Go.Proofs.YtmbokdnndlnjkaaGreat
open Go Go.RowKit
section
variable {P : Program} {ops : Array Oper} {md : Region.Mode} {C : Array Bool → World → Prop}
def uponF (P : Program) (Post : World → Prop) (v : Value) : Result Next → Prop
  | .ok (.value u) w' => u = v ∧ Post w'
  | .ok .skip w' => v = undef ∧ Post w'
  | .ok (.enter f args) w' => Calls P f args w' (fun e w'' => e = .returned v ∧ Post w'')
  | _ => False
def YieldsF (P : Program) (md : Region.Mode) (ops : Array Oper) (C : Array Bool → World → Prop) (i : Nat) (o : Oper) (v : Value) (a : Act) : Prop :=
  (Region.wanted o (yielded ops a.tmps) = true ∧ ∀ listed w, i ∈ Region.ready md ops listed → C listed w → uponF P (C (listed.setIfInBounds i true)) v ((execOp a.eval o).run P w)) ∨
  (Region.wanted o (yielded ops a.tmps) = false ∧ v = undef ∧ ∀ listed w, i ∈ Region.ready md ops listed → C listed w → C (listed.setIfInBounds i true) w)
def qOpF (P : Program) (md : Region.Mode) (ops : Array Oper) (C : Array Bool → World → Prop) (i : Nat) (K : Act → Prop) (a : Act) : Prop :=
  match ops[i]? with
  | none => False
  | some o => ∃ v, YieldsF P md ops C i o v a ∧ K (a.put o.dst v)
theorem qOpF_mono {i : Nat} {a : Act} {K K' : Act → Prop} (h : ∀ a, K a → K' a) (hh : qOpF P md ops C i K a) : qOpF P md ops C i K' a := by
  unfold qOpF at *
  split
  · rename_i ho; simp only [ho] at hh
  · rename_i o ho
    simp only [ho] at hh
    obtain ⟨v, h1, h2⟩ := hh
    exact ⟨v, h1, h _ h2⟩
def wpAnyF (P : Program) (md : Region.Mode) (ops : Array Oper) (C : Array Bool → World → Prop) (Q : Array Bool → Act → Prop) : Nat → Array Bool → Act → Prop
  | 0, listed, a => Region.ready md ops listed = [] ∧ Q listed a
  | fuel + 1, listed, a =>
    (Region.ready md ops listed = [] → Q listed a) ∧
    ∀ i ∈ Region.ready md ops listed, qOpF P md ops C i (wpAnyF P md ops C Q fuel (listed.setIfInBounds i true)) a
theorem wpOp_of_qOpF {i : Nat} {a : Act} {listed : Array Bool} {K : Act → Prop} {K' : Act → World → Prop} {Q' : Exit → Act → World → Prop} {w : World} (hl : i ∈ Region.ready md ops listed) (hC : C listed w)
    (h : ∀ a w', C (listed.setIfInBounds i true) w' → K a → K' a w') (hh : qOpF P md ops C i K a) : wpOp P ops Q' i K' a w := by
  unfold qOpF at hh
  unfold wpOp
  split
  · rename_i ho; simp only [ho] at hh
  · rename_i o ho
    simp only [ho] at hh
    obtain ⟨v, hy, h2⟩ := hh
    rcases hy with ⟨hw, hv⟩ | ⟨hw, rfl, hv⟩
    · rw [if_pos hw]
      left
      have h3 := hv listed w hl hC
      unfold Oper.wp
      generalize (execOp a.eval o).run P w = r at *
      cases r with
      | ok n w' =>
        cases n <;> simp only [uponF] at h3 <;> simp only [Oper.upon]
        case value u => obtain ⟨e1, e2⟩ := h3; rw [e1]; exact h _ _ e2 h2
        case skip => obtain ⟨e1, e2⟩ := h3; rw [← e1]; exact h _ _ e2 h2
        case enter f args => exact h3.mono fun e w'' ⟨he, hw''⟩ => by subst he; exact h _ _ hw'' h2
      | halt x w' => simp only [uponF] at h3
    · rw [if_neg (by rw [hw]; exact Bool.false_ne_true)]
      exact h _ _ (hv listed w hl hC) h2
theorem wpAny_of_F {Q : Array Bool → Act → Prop} {Q' : Exit → Act → World → Prop} (hQ : ∀ listed a w, C listed w → Q listed a → Q' .normal a w) : ∀ (fuel : Nat) (listed : Array Bool) (a : Act) (w : World), C listed w →
    wpAnyF P md ops C Q fuel listed a → wpAny P md ops Q' fuel listed a w
  | 0, _, _, _, hw, h => ⟨h.1, hQ _ _ _ hw h.2⟩
  | fuel + 1, listed, _, _, hw, h => ⟨fun h0 => hQ _ _ _ hw (h.1 h0), fun i hi => wpOp_of_qOpF hi hw (fun a' w' hw' => wpAny_of_F hQ fuel _ a' w' hw') (h.2 i hi)⟩
theorem YieldsF.of_same {i : Nat} {o : Oper} {v : Value} {a a' : Act} (hy : YieldsF P md ops C i o v a) (he : execOp a'.eval o = execOp a.eval o)
    (hw : Region.wanted o (yielded ops a'.tmps) = Region.wanted o (yielded ops a.tmps)) : YieldsF P md ops C i o v a' := by
  unfold YieldsF at *
  rw [he, hw]
  exact hy
theorem qOpF_put {i j : Nat} {oi oj : Oper} {v : Value} (hj : ops[j]? = some oj) (hap : oi.apart ops oj = true)
    (hsi : ∀ cs b, oi.op ≠ .select cs b) (hsj : ∀ cs b, oj.op ≠ .select cs b) {K : Act → Prop} {a : Act}
    (hy : YieldsF P md ops C i oi v a) (h : qOpF P md ops C j K (a.put oi.dst v)) :
    qOpF P md ops C j (fun a' => YieldsF P md ops C i oi v a' ∧ K (a'.put oi.dst v)) a := by
  obtain ⟨h1, h2, h3⟩ := Oper.apart_spec hap
  unfold qOpF at *
  simp only [hj] at *
  obtain ⟨u, hu, hn⟩ := h
  refine ⟨u, hu.of_same ?_ ?_, hy.of_same ?_ ?_, ?_⟩
  · exact (execOp_put oj hsj a oi.dst v h1).symm
  · exact (wanted_put oj a oi.dst v h1).symm
  · exact execOp_put oi hsi a oj.dst u h3
  · exact wanted_put oi a oj.dst u h3
  · rw [← Act.put_comm a v u h2]; exact hn
theorem wpAnyF_first {Q : Array Bool → Act → Prop} {i : Nat} {oi : Oper} {v : Value} (hi : ops[i]? = some oi) (hsel : ∀ (j : Nat) (o : Oper) cs b, ops[j]? = some o → o.op ≠ .select cs b) :
    ∀ (fuel : Nat) (listed : Array Bool) (a : Act),
      (∀ j oj, ops[j]? = some oj → j ≠ i → listed.getD j true = false → (∀ e ∈ oj.after, Region.binds md e = true → e.on ≠ i) → oi.apart ops oj = true) →
      i ∈ Region.ready md ops listed → YieldsF P md ops C i oi v a →
      wpAnyF P md ops C Q fuel (listed.setIfInBounds i true) (a.put oi.dst v) → wpAnyF P md ops C Q (fuel + 1) listed a := by
  intro fuel
  induction fuel with
  | zero =>
    intro listed a _ hr hy H
    refine ⟨fun h => (by rw [h] at hr; cases hr), fun j hj => ?_⟩
    by_cases hji : j = i
    · subst hji
      unfold qOpF; simp only [hi]
      exact ⟨v, hy, H⟩
    · have := ready_mono hj hji
      rw [H.1] at this
      cases this
  | succ fuel ih =>
    intro listed a hfree hr hy H
    refine ⟨fun h => (by rw [h] at hr; cases hr), fun j hj => ?_⟩
    by_cases hji : j = i
    · subst hji
      unfold qOpF; simp only [hi]
      exact ⟨v, hy, H⟩
    · have h1 := H.2 j (ready_mono hj hji)
      obtain ⟨hjun, oj, hoj, hall⟩ := mem_ready.1 hj
      have hnot : ∀ e ∈ oj.after, Region.binds md e = true → e.on ≠ i := fun e he hb heq => by
        have h1 := hall e he hb
        have h0 := (mem_ready.1 hr).1
        rw [heq] at h1
        rcases Nat.lt_or_ge i listed.size with h' | h'
        · simp [h'] at h0 h1; rw [h0] at h1; cases h1
        · simp [Array.getElem?_eq_none h'] at h1
      have h2 := qOpF_put hoj (hfree j oj hoj hji hjun hnot) (fun cs b => hsel i oi cs b hi) (fun cs b => hsel j oj cs b hoj) hy h1
      have hfree' : ∀ k ok, ops[k]? = some ok → k ≠ i → (listed.setIfInBounds j true).getD k true = false →
          (∀ e ∈ ok.after, Region.binds md e = true → e.on ≠ i) → oi.apart ops ok = true := fun k ok hk hki hun hno => by
        refine hfree k ok hk hki ?_ hno
        by_cases hjk : j = k
        · subst hjk; exact hjun
        · rw [getD_set_ne true hjk] at hun; exact hun
      refine qOpF_mono (fun a' h3 => ih (listed.setIfInBounds j true) a' hfree' (ready_mono hr (Ne.symm hji)) h3.1 ?_) h2
      rw [Array.setIfInBounds_comm _ _ hji]
      exact h3.2
/-- the walk in the order of the text, number k first -/
def wpF (P : Program) (md : Region.Mode) (ops : Array Oper) (C : Array Bool → World → Prop) (Q : Act → Prop) : List Oper → Nat → Act → Prop
  | [], _, a => Q a
  | o :: rest, k, a => ∃ v, YieldsF P md ops C k o v a ∧ wpF P md ops C Q rest (k + 1) (a.put o.dst v)
def setAll : Nat → Nat → Array Bool → Array Bool
  | 0, _, l => l
  | n + 1, k, l => setAll n (k + 1) (l.setIfInBounds k true)
theorem wpAnyF_lex {Q : Array Bool → Act → Prop} (hs : Region.noSelect ops = true) : ∀ (l : List Oper) (k : Nat) (listed : Array Bool) (a : Act), (∀ j, l[j]? = ops[k + j]?) →
    Region.lexFrom md ops l.length k listed = true → wpF P md ops C (Q (setAll l.length k listed)) l k a → wpAnyF P md ops C Q l.length listed a
  | [], _, _, _, _, hB, h => ⟨by simpa [Region.lexFrom] using hB, h⟩
  | o :: l, k, listed, a, hl, hB, h => by
    have h0 : ops[k]? = some o := by simpa using (hl 0).symm
    simp only [List.length_cons, Region.lexFrom, Bool.and_eq_true] at hB
    obtain ⟨⟨hr, hf⟩, hB'⟩ := hB
    obtain ⟨v, hy, hK⟩ := h
    exact wpAnyF_first h0 (Region.noSelect_spec hs) l.length listed a (Region.free_spec h0 hf) (by simpa using hr) hy
      (wpAnyF_lex hs l (k + 1) _ _ (fun j => by have := hl (j + 1); simpa [Nat.add_assoc, Nat.add_comm 1 j] using this) hB' hK)
theorem wp_region_F {id : Nat} {Q : Exit → Act → World → Prop} {a : Act} {w : World} {l : List Oper} (C : Array Bool → World → Prop) (hm : P.follows .mixedOrders = true) (hB : Region.lexB .any l.toArray = true)
    (hC : C (Array.replicate l.length false) { w with drawn := w.drawn + 1 })
    (h : wpF P .any l.toArray C (fun a' => ∀ w', C (setAll l.length 0 (Array.replicate l.length false)) w' → Q .normal a' w') l 0 a) : (Code.region id l.toArray true).wp P Q a w := by
  simp only [Region.lexB, Bool.and_eq_true] at hB
  refine wp_region_any hm (wpAny_of_F (C := C) (Q := fun listed a' => ∀ w', C listed w' → Q .normal a' w') (fun _ _ w' hw' h => h w' hw') _ _ _ _ (by simpa using hC) ?_)
  have := wpAnyF_lex (C := C) (md := .any) (Q := fun listed a' => ∀ w', C listed w' → Q .normal a' w') hB.1 l 0 (Array.replicate l.length false) a (by simp) (by simpa using hB.2) h
  simpa using this
end
/-! two flagged operations, numbers j1, j2 (a number that no operation bears: none) -/
/-- the operations that yield a value without entering a function -/
def isV : Op → Bool
  | .move _ | .assign _ | .pick .. | .build .. | .load .. | .binOp .. | .unOp .. | .convert .. | .slice .. | .fieldAddr .. | .field .. | .indexAddr .. | .index .. | .extract .. | .sliceToArrayPointer .. => true
  | _ => false
theorem run_v {P : Program} {s : Sem Value} {w w' : World} {n : Next} (h : (do pure (Next.value (← s)) : Sem Next).run P w = .ok n w') : ∃ u, n = .value u := by
  rw [Sem.run_bind] at h
  cases hs : s.run P w with
  | ok u w1 => rw [hs] at h; simp [Result.andThen] at h; exact ⟨u, h.1.symm⟩
  | halt x w1 => rw [hs] at h; simp [Result.andThen] at h
theorem isV_value {P : Program} {o : Oper} {ev : Operand → Value} {w w' : World} {n : Next} (hV : isV o.op = true) (h : (execOp ev o).run P w = .ok n w') : ∃ u, n = .value u := by
  unfold execOp at h
  cases ho : o.op <;> rw [ho] at h hV <;> simp only [isV, Bool.false_eq_true] at hV <;> dsimp only at h
  case move x => simp at h; exact ⟨_, h.1.symm⟩
  case assign x => simp at h; exact ⟨_, h.1.symm⟩
  case pick c x y =>
    rw [Sem.run_bind] at h
    cases hs : (asBool (ev c)).run P w with
    | ok u w1 => rw [hs] at h; simp [Result.andThen] at h; exact ⟨_, h.1.symm⟩
    | halt x w1 => rw [hs] at h; simp [Result.andThen] at h
  all_goals exact run_v h
structure FX (F : Bool → Bool → World → Prop) where
  W : World
  h : ∃ b1 b2, F b1 b2 W
section
variable {P : Program} {ops : Array Oper} {rest : List Oper} {o : Oper} {a : Act} {Q : Act → Prop} {F : Bool → Bool → World → Prop} {j1 j2 k : Nat} {md : Region.Mode}
theorem ready_after {i j : Nat} {oi : Oper} {listed : Array Bool} (hi : ops[i]? = some oi) (hd : (oi.after.any fun e => Region.binds md e && e.on == j) = true) (hr : i ∈ Region.ready md ops listed) : listed.getD j false = true := by
  obtain ⟨_, o', ho', hall⟩ := mem_ready.1 hr
  have : o' = oi := Option.some.inj (ho'.symm.trans hi)
  subst this
  obtain ⟨e, he, hb⟩ := Array.any_eq_true'.1 hd
  simp only [Bool.and_eq_true, beq_iff_eq] at hb
  rw [← hb.2]; exact hall e he hb.1
structure FX1 (F : Bool → Bool → World → Prop) where
  W : World
  h : ∃ b2, F true b2 W
theorem getD_on {listed : Array Bool} {i : Nat} (h : listed.getD i true = false) : listed.getD i false = false ∧ (listed.setIfInBounds i true).getD i false = true := by
  rcases Nat.lt_or_ge i listed.size with h' | h'
  · simp [h'] at h ⊢; exact h
  · simp [Array.getElem?_eq_none h'] at h
end
/-- the flagged operation is a call that makes just one block -/
def FNew (w0 : World) (t : TypeId) (cs : Array Value) : Bool → Bool → World → Prop := fun b1 _ W => Below w0.heap.size w0 W ∧ (b1 = false → W.heap.size = w0.heap.size) ∧ (b1 = true → Bx W w0.heap.size t cs)
theorem FNew.start (w0 : World) (t : TypeId) (cs : Array Value) : FNew w0 t cs false false w0.drew := ⟨(Below.refl _ _).drew, fun _ => rfl, (fun h => by cases h)⟩
theorem FNew.below {w0 : World} {t : TypeId} {cs : Array Value} (x : FX (FNew w0 t cs)) : Below w0.heap.size w0 x.W := by obtain ⟨W, b1, b2, h⟩ := x; exact h.1
instance (w0 : World) (t : TypeId) (cs : Array Value) : Nonempty (FX (FNew w0 t cs)) := ⟨⟨w0.drew, false, false, FNew.start w0 t cs⟩⟩
instance (w0 : World) (t : TypeId) (cs : Array Value) : Nonempty (FX1 (FNew w0 t cs)) := ⟨⟨w0.alloc (.cells cs t), false, (Below.refl _ _).alloc (Nat.le_refl _) _, (fun h => by cases h), fun _ => Bx.new _ _ _⟩⟩
theorem FNew.call {P : Program} {f : FuncId} {av : Array Value} {w0 : World} {t : TypeId} {cs : Array Value} {n c : Nat}
    (h : ∀ W, Calls P f av W (fun e w' => e = .returned (.slice (some ⟨W.heap.size, 0, none⟩) n c) ∧ Bx w' W.heap.size t cs ∧ Below W.heap.size W w')) (b2 : Bool) (W : World) (hW : FNew w0 t cs false b2 W) :
    Calls P f av W (fun e W' => e = .returned (.slice (some ⟨w0.heap.size, 0, none⟩) n c) ∧ FNew w0 t cs true b2 W') := by
  have hz := hW.2.1 rfl
  refine (h W).mono fun e w' ⟨h1, h2, h3⟩ => ?_
  rw [hz] at h1 h2
  exact ⟨h1, hW.1.trans (h3.mono (by rw [hz]; exact Nat.le_refl _)), (fun h => by cases h), fun _ => h2⟩
end Go.Proofs.YtmbokdnndlnjkaaGreat
namespace Go.Proofs.YtmbokdnndlnjkaaGreat
open Go Go.RowKit
def CN (F : (Nat → Bool) → World → Prop) : Array Bool → World → Prop := fun listed W => F (fun j => listed.getD j false) W
def Dep (F : (Nat → Bool) → World → Prop) (js : List Nat) : Prop := ∀ f g W, (∀ j ∈ js, f j = g j) → F f W → F g W
structure FXN (F : (Nat → Bool) → World → Prop) where
  W : World
  h : ∃ f, F f W
section
variable {P : Program} {ops : Array Oper} {rest : List Oper} {o : Oper} {a : Act} {Q : Act → Prop} {F : (Nat → Bool) → World → Prop} {js : List Nat} {k : Nat} {md : Region.Mode}
theorem CN.skip (hD : Dep F js) (hk : k ∉ js) {listed : Array Bool} {W : World} (hW : CN F listed W) : CN F (listed.setIfInBounds k true) W := by
  refine hD _ _ _ (fun j hj => ?_) hW
  have hne : k ≠ j := fun e => hk (e ▸ hj)
  rw [getD_set_ne false hne]
theorem wpN_read (hD : Dep F js) (hV : isV o.op = true) (hk : k ∉ js) (h : wpQuiet P ops (fun W => ∃ x : FXN F, W = x.W) (fun a' => wpF P md ops (CN F) Q rest (k + 1) a') [o] a) : wpF P md ops (CN F) Q (o :: rest) k a := by
  unfold wpQuiet at h
  split at h
  · rename_i hw
    obtain ⟨v, h1, h2⟩ := h
    refine ⟨v, .inl ⟨hw, fun listed W hl hW => ?_⟩, h2⟩
    have h3 := h1 W ⟨⟨W, _, hW⟩, rfl⟩
    unfold Oper.quietAt at h3
    cases hr : (execOp a.eval o).run P W with
    | ok n w' =>
      obtain ⟨u, rfl⟩ := isV_value hV hr
      rw [hr] at h3
      simp only [Oper.quietUpon] at h3
      simp only [uponF]
      obtain ⟨e1, e2⟩ := h3
      subst e1
      exact ⟨e2, hW.skip hD hk⟩
    | halt x w' => rw [hr] at h3; simp only [Oper.quietUpon] at h3
  · rename_i hw
    exact ⟨undef, .inr ⟨by simpa using hw, rfl, fun listed W hl hW => hW.skip hD hk⟩, h⟩
theorem wpN_store (hD : Dep F js) (ty : TypeId) (x y : Operand) (ho : o.op = .store ty x y) (hw : Region.wanted o (yielded ops a.tmps) = true) {p u : Value} (hx : a.eval x = p) (hy : a.eval y = u)
    (hs : ∀ f W, F f W → ∃ W', (Instr.storeAt ty p u).run P W = .ok () W' ∧ F (fun i => i == k || f i) W') (h : wpF P md ops (CN F) Q rest (k + 1) (a.put o.dst undef)) : wpF P md ops (CN F) Q (o :: rest) k a := by
  refine ⟨undef, .inl ⟨hw, fun listed W hl hW => ?_⟩, h⟩
  obtain ⟨W', h1, h2⟩ := hs _ W hW
  unfold execOp
  simp only [ho, hx, hy, Sem.run_bind, h1, Result.andThen_ok, Sem.run_pure, uponF, true_and]
  refine hD _ _ _ (fun j hj => ?_) h2
  by_cases hjk : j = k
  · subst hjk
    rw [(getD_on (mem_ready.1 hl).1).2]; simp
  · have hne : k ≠ j := Ne.symm hjk
    rw [getD_set_ne false hne]; simp [hjk]
end
theorem wp_region_N {P : Program} {id : Nat} {Q : Exit → Act → World → Prop} {a : Act} {w : World} {l : List Oper} (F : (Nat → Bool) → World → Prop) (js : List Nat) (hD : Dep F js) (hm : P.follows .mixedOrders = true) (hB : Region.lexB .any l.toArray = true)
    (hf : (js.all fun j => (setAll l.length 0 (Array.replicate l.length false)).getD j false) = true)
    (hC : F (fun _ => false) w.drew)
    (h : wpF P .any l.toArray (CN F) (fun a' => ∀ w', F (fun _ => true) w' → Q .normal a' w') l 0 a) : (Code.region id l.toArray true).wp P Q a w := by
  have e : ∀ j, (Array.replicate l.length false).getD j false = false := fun j => getD_replicate_false _ _
  refine wp_region_F (CN F) hm hB ?_ ?_
  · exact hD _ _ _ (fun j _ => (e j).symm) hC
  · have e2 : ∀ w', CN F (setAll l.length 0 (Array.replicate l.length false)) w' → F (fun _ => true) w' := fun w' h' => hD _ _ _ (fun j hj => by simpa using List.all_eq_true.1 hf j hj) h'
    have mono : ∀ (r : List Oper) (k : Nat) (a' : Act), wpF P .any l.toArray (CN F) (fun a' => ∀ w', F (fun _ => true) w' → Q .normal a' w') r k a' → wpF P .any l.toArray (CN F) (fun a' => ∀ w', CN F (setAll l.length 0 (Array.replicate l.length false)) w' → Q .normal a' w') r k a' := by
      intro r
      induction r with
      | nil => intro k a' h0 w' h'; exact h0 w' (e2 w' h')
      | cons o r ih => intro k a' h0; obtain ⟨v, h1, h2⟩ := h0; exact ⟨v, h1, ih _ _ h2⟩
    exact mono l 0 a h
end Go.Proofs.YtmbokdnndlnjkaaGreat
namespace Go.Proofs.YtmbokdnndlnjkaaGreat
open Go Go.RowKit
/-- a block, and the store number k that makes 'new' of 'old' -/
structure Bk where
  g : Nat
  t : TypeId
  k : Nat
  old : Array Value
  new : Array Value
def FBx (w0 : World) (B : Nat) (L : List Bk) : (Nat → Bool) → World → Prop := fun f W => Below B w0 W ∧ ∀ p ∈ L, Bx W p.g p.t (if f p.k = true then p.new else p.old)
section
variable {w0 : World} {B : Nat} {L : List Bk} {js : List Nat}
theorem FBx.dep (h : ∀ p ∈ L, p.k ∈ js) : Dep (FBx w0 B L) js := by
  rintro f g W hfg ⟨h1, h2⟩
  exact ⟨h1, fun p hp => by rw [← hfg p.k (h p hp)]; exact h2 p hp⟩
theorem FBx.start {W : World} (h1 : Below B w0 W) (h2 : ∀ p ∈ L, Bx W p.g p.t p.old) : FBx w0 B L (fun _ => false) W.drew := ⟨h1.drew, fun p hp => by rw [if_neg (by simp)]; exact h2 p hp⟩
theorem FBx.done {W : World} (h : FBx w0 B L (fun _ => true) W) : Below B w0 W ∧ ∀ p ∈ L, Bx W p.g p.t p.new := ⟨h.1, fun p hp => by have := h.2 p hp; rwa [if_pos rfl] at this⟩
theorem FBx.cell (p : Bk) (hp : p ∈ L) (he : p.old = p.new) (x : FXN (FBx w0 B L)) (i : Nat) : x.W.cell? ⟨p.g, i, none⟩ = p.old[i]? := by
  obtain ⟨W, f, h⟩ := x
  have := h.2 p hp
  rw [← he] at this
  split at this <;> exact this.cell i
theorem FBx.base (x : FXN (FBx w0 B L)) : Below B w0 x.W := by obtain ⟨W, f, h⟩ := x; exact h.1
variable {P : Program} {k : Nat}
theorem FBx.step1 (p : Bk) (hp : p ∈ L) (hB : B ≤ p.g) (hk : p.k = k) {q : Nat} {u u0 u1 : Value} (ho : p.old[q]? = some u0) (hn : p.new[q]? = some u1) (h1 : p.old.setIfInBounds q u = p.new) (h2 : p.new.setIfInBounds q u = p.new)
    (hoth : ∀ p' ∈ L, p' = p ∨ (p'.g ≠ p.g ∧ (p'.k ≠ k ∨ p'.old = p'.new))) {ty : TypeId}
    (hs : ∀ (W : World) (u0 : Value), W.cell? ⟨p.g, q, none⟩ = some u0 → W.frozen? ⟨p.g, q, none⟩ = false → (Instr.storeAt ty (.pointer (some ⟨p.g, q, none⟩)) u).run P W = .ok () (W.setCell ⟨p.g, q, none⟩ u))
    (f : Nat → Bool) (W : World) (h : FBx w0 B L f W) : ∃ W', (Instr.storeAt ty (.pointer (some ⟨p.g, q, none⟩)) u).run P W = .ok () W' ∧ FBx w0 B L (fun i => i == k || f i) W' := by
  have hb := h.2 p hp
  have hc : ∃ v, W.cell? ⟨p.g, q, none⟩ = some v := by
    rw [hb.cell]; split
    · exact ⟨_, hn⟩
    · exact ⟨_, ho⟩
  obtain ⟨v, hc⟩ := hc
  refine ⟨_, hs W v hc (hb.free q), h.1.setCell (p := ⟨p.g, q, none⟩) hB _, fun p' hp' => ?_⟩
  rcases hoth p' hp' with rfl | ⟨e1, e2⟩
  · have := hb.set (i := q) u
    rw [if_pos (by simp [hk])]
    split at this
    · rwa [h2] at this
    · rwa [h1] at this
  · have := (h.2 p' hp').far (p := ⟨p.g, q, none⟩) e1 u
    rcases e2 with e2 | e2
    · simp only [show (p'.k == k) = false by rw [beq_eq_false_iff_ne]; exact e2, Bool.false_or]; exact this
    · rw [e2] at this ⊢
      split at this <;> split <;> exact this
theorem FBx.stepRow (p : Bk) (hp : p ∈ L) (hB : B ≤ p.g) (hk : p.k = k) {q : Nat} {cells : Array Value} (ho : q + cells.size ≤ p.old.size) (hn : q + cells.size ≤ p.new.size) (h1 : putL p.old q cells.toList = p.new) (h2 : putL p.new q cells.toList = p.new)
    (hoth : ∀ p' ∈ L, p' = p ∨ (p'.g ≠ p.g ∧ (p'.k ≠ k ∨ p'.old = p'.new))) {ty : TypeId} (hi : (P.info? ty).map (·.size) = some cells.size) (hc1 : cells.all (·.oneCell') = true)
    (f : Nat → Bool) (W : World) (h : FBx w0 B L f W) : ∃ W', (Instr.storeAt ty (.pointer (some ⟨p.g, q, none⟩)) (.agg cells)).run P W = .ok () W' ∧ FBx w0 B L (fun i => i == k || f i) W' := by
  have hb := h.2 p hp
  have ht : W.there p.g q cells.size := fun j hj => by
    refine ⟨?_, hb.free _⟩
    rw [hb.cell]
    split
    · rw [Array.getElem?_eq_getElem (by omega)]; rfl
    · rw [Array.getElem?_eq_getElem (by omega)]; rfl
  refine ⟨_, run_storeAt_mid (P := P) W p.g q ty cells ht hi hc1, below_setCells hB _ _ _ h.1, fun p' hp' => ?_⟩
  rcases hoth p' hp' with rfl | ⟨e1, e2⟩
  · have := Bx.setCells cells.toList q hb
    rw [if_pos (by simp [hk])]
    split at this
    · rwa [h2] at this
    · rwa [h1] at this
  · have := setCells_far e1 cells.toList q W (h.2 p' hp')
    rcases e2 with e2 | e2
    · simp only [show (p'.k == k) = false by rw [beq_eq_false_iff_ne]; exact e2, Bool.false_or]; exact this
    · rw [e2] at this ⊢
      split at this <;> split <;> exact this
end
section
variable {P : Program} {ops : Array Oper} {rest : List Oper} {o : Oper} {a : Act} {Q : Act → Prop} {F : (Nat → Bool) → World → Prop} {js : List Nat} {k : Nat} {md : Region.Mode}
/-- len(..) -/
theorem wpN_len (hD : Dep F js) {x : Operand} {ats : Array TypeId} (ho : o.op = .call { callee := .builtin .len, args := #[x], argTypes := ats }) (hk : k ∉ js) (hw : Region.wanted o (yielded ops a.tmps) = true) {v : Value}
    (hl : ∀ W, (Builtin.len_ ats o.type #[a.eval x]).run P W = .ok v W) (h : wpF P md ops (CN F) Q rest (k + 1) (a.put o.dst v)) : wpF P md ops (CN F) Q (o :: rest) k a := by
  refine ⟨v, .inl ⟨hw, fun listed W hl' hW => ?_⟩, h⟩
  have : (execOp a.eval o).run P W = .ok (.value v) W := by
    simp [execOp, ho, resolve, invoke, builtin, hl]
  rw [this]
  exact ⟨rfl, hW.skip hD hk⟩
/-- an operation that is passed over -/
theorem wpN_skip (hD : Dep F js) (hk : k ∉ js) (hw : Region.wanted o (yielded ops a.tmps) = false) (h : wpF P md ops (CN F) Q rest (k + 1) (a.put o.dst undef)) : wpF P md ops (CN F) Q (o :: rest) k a :=
  ⟨undef, .inr ⟨hw, rfl, fun listed W hl hW => hW.skip hD hk⟩, h⟩
end
theorem store_bool {P : Program} {ty : TypeId} (hi : (P.info? ty).map (·.size) = some 1) (W : World) (ad : Addr) (u0 : Value) (b : Bool) (hc : W.cell? ad = some u0) (hf : W.frozen? ad = false) : (Instr.storeAt ty (.pointer (some ad)) (.bool b)).run P W = .ok () (W.setCell ad (.bool b)) := by
  obtain ⟨i, hi', e⟩ := Option.map_eq_some_iff.1 hi
  simp [go_sem, hc, hf, sizeOf, typeInfo, hi', e]
end Go.Proofs.YtmbokdnndlnjkaaGreat
namespace Go.Proofs.YtmbokdnndlnjkaaGreat
open Go Go.RowKit
section
variable {P : Program} {ops : Array Oper} {rest : List Oper} {o : Oper} {a : Act} {Q : Act → Prop} {F : (Nat → Bool) → World → Prop} {js : List Nat} {k : Nat} {md : Region.Mode}
end
/-- one of five worlds, by which of four operations are done, one behind the other -/
def FCh (k1 k2 k3 k4 : Nat) (W0 W1 W2 W3 W4 : World) : (Nat → Bool) → World → Prop := fun f W =>
  (f k2 = true → f k1 = true) ∧ (f k3 = true → f k2 = true) ∧ (f k4 = true → f k3 = true) ∧ W = (if f k4 = true then W4 else if f k3 = true then W3 else if f k2 = true then W2 else if f k1 = true then W1 else W0)
section
variable {k1 k2 k3 k4 : Nat} {W0 W1 W2 W3 W4 : World}
theorem FCh.dep : Dep (FCh k1 k2 k3 k4 W0 W1 W2 W3 W4) [k1, k2, k3, k4] := by
  rintro f g W hfg ⟨h1, h2, h3, h4⟩
  have e1 := hfg k1 (by simp); have e2 := hfg k2 (by simp); have e3 := hfg k3 (by simp); have e4 := hfg k4 (by simp)
  rw [e1, e2] at h1; rw [e2, e3] at h2; rw [e3, e4] at h3; rw [e1, e2, e3, e4] at h4
  exact ⟨h1, h2, h3, h4⟩
theorem FCh.start : FCh k1 k2 k3 k4 W0 W1 W2 W3 W4 (fun _ => false) W0 := ⟨by simp, by simp, by simp, by simp⟩
theorem FCh.done {W : World} (h : FCh k1 k2 k3 k4 W0 W1 W2 W3 W4 (fun _ => true) W) : W = W4 := by have := h.2.2.2; simpa using this
theorem no_of {b c : Bool} (h : b = true → c = true) (hc : c = false) : b = false := by cases b; rfl; rw [h rfl] at hc; cases hc
theorem FCh.s1 (hk : k1 ≠ k2 ∧ k1 ≠ k3 ∧ k1 ≠ k4) {f : Nat → Bool} {W : World} (h : FCh k1 k2 k3 k4 W0 W1 W2 W3 W4 f W) (h0 : f k1 = false) : W = W0 ∧ FCh k1 k2 k3 k4 W0 W1 W2 W3 W4 (fun i => i == k1 || f i) W1 := by
  obtain ⟨a1, a2, a3, a4⟩ := h
  have b2 := no_of a1 h0; have b3 := no_of a2 b2; have b4 := no_of a3 b3
  refine ⟨by rw [a4]; simp [h0, b2, b3, b4], by simp, ?_, ?_, ?_⟩
  · simp only [b3, Bool.or_false]; intro h; rw [beq_iff_eq] at h; exact absurd h.symm hk.2.1
  · simp only [b4, Bool.or_false]; intro h; rw [beq_iff_eq] at h; exact absurd h.symm hk.2.2
  · have e2 : (k2 == k1) = false := by rw [beq_eq_false_iff_ne]; exact hk.1.symm
    have e3 : (k3 == k1) = false := by rw [beq_eq_false_iff_ne]; exact hk.2.1.symm
    have e4 : (k4 == k1) = false := by rw [beq_eq_false_iff_ne]; exact hk.2.2.symm
    simp [b2, b3, b4, e2, e3, e4]
theorem FCh.s2 (hk : k2 ≠ k1 ∧ k2 ≠ k3 ∧ k2 ≠ k4) {f : Nat → Bool} {W : World} (h : FCh k1 k2 k3 k4 W0 W1 W2 W3 W4 f W) (h0 : f k2 = false) (h1 : f k1 = true) : W = W1 ∧ FCh k1 k2 k3 k4 W0 W1 W2 W3 W4 (fun i => i == k2 || f i) W2 := by
  obtain ⟨a1, a2, a3, a4⟩ := h
  have b3 := no_of a2 h0; have b4 := no_of a3 b3
  have e1 : (k1 == k2) = false := by rw [beq_eq_false_iff_ne]; exact hk.1.symm
  have e3 : (k3 == k2) = false := by rw [beq_eq_false_iff_ne]; exact hk.2.1.symm
  have e4 : (k4 == k2) = false := by rw [beq_eq_false_iff_ne]; exact hk.2.2.symm
  exact ⟨by rw [a4]; simp [h0, h1, b3, b4], by simp [h1], by simp, by simp [b4, e4], by simp [b3, b4, e3, e4]⟩
theorem FCh.s3 (hk : k3 ≠ k1 ∧ k3 ≠ k2 ∧ k3 ≠ k4) {f : Nat → Bool} {W : World} (h : FCh k1 k2 k3 k4 W0 W1 W2 W3 W4 f W) (h0 : f k3 = false) (h1 : f k2 = true) : W = W2 ∧ FCh k1 k2 k3 k4 W0 W1 W2 W3 W4 (fun i => i == k3 || f i) W3 := by
  obtain ⟨a1, a2, a3, a4⟩ := h
  have b4 := no_of a3 h0
  have e4 : (k4 == k3) = false := by rw [beq_eq_false_iff_ne]; exact hk.2.2.symm
  exact ⟨by rw [a4]; simp [h0, h1, b4], by simp [a1 h1], by simp [h1], by simp, by simp [b4, e4]⟩
theorem FCh.s4 (hk : k4 ≠ k1 ∧ k4 ≠ k2 ∧ k4 ≠ k3) {f : Nat → Bool} {W : World} (h : FCh k1 k2 k3 k4 W0 W1 W2 W3 W4 f W) (h0 : f k4 = false) (h1 : f k3 = true) : W = W3 ∧ FCh k1 k2 k3 k4 W0 W1 W2 W3 W4 (fun i => i == k4 || f i) W4 := by
  obtain ⟨a1, a2, a3, a4⟩ := h
  exact ⟨by rw [a4]; simp [h0, h1], by simp [a1 (a2 h1)], by simp [a2 h1], by simp [h1], by simp⟩
end
/-- one of four worlds, by which of three operations are done, one behind the other -/
def FC3 (k1 k2 k3 : Nat) (W0 W1 W2 W3 : World) : (Nat → Bool) → World → Prop := fun f W =>
  (f k2 = true → f k1 = true) ∧ (f k3 = true → f k2 = true) ∧ W = (if f k3 = true then W3 else if f k2 = true then W2 else if f k1 = true then W1 else W0)
section
variable {k1 k2 k3 : Nat} {W0 W1 W2 W3 : World}
theorem FC3.dep : Dep (FC3 k1 k2 k3 W0 W1 W2 W3) [k1, k2, k3] := by
  rintro f g W hfg ⟨h1, h2, h4⟩
  have e1 := hfg k1 (by simp); have e2 := hfg k2 (by simp); have e3 := hfg k3 (by simp)
  rw [e1, e2] at h1; rw [e2, e3] at h2; rw [e1, e2, e3] at h4
  exact ⟨h1, h2, h4⟩
theorem FC3.start : FC3 k1 k2 k3 W0 W1 W2 W3 (fun _ => false) W0 := ⟨by simp, by simp, by simp⟩
theorem FC3.done {W : World} (h : FC3 k1 k2 k3 W0 W1 W2 W3 (fun _ => true) W) : W = W3 := by have := h.2.2; simpa using this
theorem FC3.s1 (hk : k1 ≠ k2 ∧ k1 ≠ k3) {f : Nat → Bool} {W : World} (h : FC3 k1 k2 k3 W0 W1 W2 W3 f W) (h0 : f k1 = false) : W = W0 ∧ FC3 k1 k2 k3 W0 W1 W2 W3 (fun i => i == k1 || f i) W1 := by
  obtain ⟨a1, a2, a4⟩ := h
  have b2 := no_of a1 h0; have b3 := no_of a2 b2
  have e2 : (k2 == k1) = false := by rw [beq_eq_false_iff_ne]; exact hk.1.symm
  have e3 : (k3 == k1) = false := by rw [beq_eq_false_iff_ne]; exact hk.2.symm
  exact ⟨by rw [a4]; simp [h0, b2, b3], by simp, by simp [b3, e3], by simp [b2, b3, e2, e3]⟩
theorem FC3.s2 (hk : k2 ≠ k1 ∧ k2 ≠ k3) {f : Nat → Bool} {W : World} (h : FC3 k1 k2 k3 W0 W1 W2 W3 f W) (h0 : f k2 = false) (h1 : f k1 = true) : W = W1 ∧ FC3 k1 k2 k3 W0 W1 W2 W3 (fun i => i == k2 || f i) W2 := by
  obtain ⟨a1, a2, a4⟩ := h
  have b3 := no_of a2 h0
  have e3 : (k3 == k2) = false := by rw [beq_eq_false_iff_ne]; exact hk.2.symm
  exact ⟨by rw [a4]; simp [h0, h1, b3], by simp [h1], by simp, by simp [b3, e3]⟩
theorem FC3.s3 (hk : k3 ≠ k1 ∧ k3 ≠ k2) {f : Nat → Bool} {W : World} (h : FC3 k1 k2 k3 W0 W1 W2 W3 f W) (h0 : f k3 = false) (h1 : f k2 = true) : W = W2 ∧ FC3 k1 k2 k3 W0 W1 W2 W3 (fun i => i == k3 || f i) W3 := by
  obtain ⟨a1, a2, a4⟩ := h
  exact ⟨by rw [a4]; simp [h0, h1], by simp [a1 h1], by simp [h1], by simp⟩
end
end Go.Proofs.YtmbokdnndlnjkaaGreat
namespace Go.Proofs.YtmbokdnndlnjkaaGreat
open Go Go.RowKit
/-- the first d of the operations ks are done, the world is Ws d; the read r comes before the operation number m. -/
def FL (ks : List Nat) (Ws : Nat → World) (r m : Nat) : (Nat → Bool) → World → Prop := fun f W =>
  ∃ d, d ≤ ks.length ∧ (∀ i k, ks[i]? = some k → f k = decide (i < d)) ∧ W = Ws d ∧ (m < d → f r = true)
section
variable {ks : List Nat} {Ws : Nat → World} {r m : Nat}
theorem FL.dep : Dep (FL ks Ws r m) (r :: ks) := by
  rintro f g W hfg ⟨d, h1, h2, h3, h4⟩
  refine ⟨d, h1, fun i k hk => ?_, h3, fun hm => ?_⟩
  · rw [← hfg k (List.mem_cons_of_mem _ (List.mem_of_getElem? hk))]; exact h2 i k hk
  · rw [← hfg r List.mem_cons_self]; exact h4 hm
theorem FL.start : FL ks Ws r m (fun _ => false) (Ws 0) := ⟨0, Nat.zero_le _, fun i k _ => by simp, rfl, fun h => by omega⟩
theorem FL.done {W : World} (h : FL ks Ws r m (fun _ => true) W) : W = Ws ks.length := by
  obtain ⟨d, h1, h2, h3, h4⟩ := h
  rw [h3]
  congr 1
  by_cases hd : d = ks.length
  · exact hd
  · have hlt : d < ks.length := by omega
    have := h2 d ks[d] (List.getElem?_eq_getElem hlt)
    simp at this
theorem FL.step {i k : Nat} (hk : ks[i]? = some k) (hn : ks.Nodup) {f : Nat → Bool} {W : World} (h : FL ks Ws r m f W) (h0 : f k = false) (hp : ∀ p, i = p + 1 → ∀ k', ks[p]? = some k' → f k' = true) (hm : i = m → f r = true) :
    W = Ws i ∧ FL ks Ws r m (fun j => j == k || f j) (Ws (i + 1)) := by
  obtain ⟨d, h1, h2, h3, h4⟩ := h
  have hil : i < ks.length := (List.getElem?_eq_some_iff.1 hk).1
  have hd1 : ¬ i < d := by have := h2 i k hk; rw [h0] at this; simpa using this.symm
  have hd2 : i ≤ d := by
    rcases i with _ | p
    · omega
    · have hp' : ks[p]? = some ks[p] := List.getElem?_eq_getElem (by omega)
      have e1 := hp p rfl _ hp'
      rw [h2 p _ hp'] at e1
      have := of_decide_eq_true e1
      omega
  obtain rfl : d = i := by omega
  refine ⟨h3, d + 1, by omega, fun j k' hk' => ?_, rfl, fun hmd => ?_⟩
  · by_cases hj : j = d
    · subst hj
      rw [hk] at hk'; injection hk' with hk'; subst hk'
      simp
    · have hne : k' ≠ k := fun e => by
        subst e
        exact hj ((List.getElem?_inj (List.getElem?_eq_some_iff.1 hk').1 hn).1 (hk'.trans hk.symm))
      have e1 : (k' == k) = false := by rw [beq_eq_false_iff_ne]; exact hne
      simp only [e1, Bool.false_or]
      rw [h2 j k' hk']
      have : (j < d) = (j < d + 1) := by rw [eq_iff_iff]; omega
      simp only [this]
  · by_cases hmi : d = m
    · simp [hm hmi]
    · simp [h4 (by omega)]
theorem FL.prev {p q : Nat} {f : Nat → Bool} (hq : ks[p]? = some q) (h : f q = true) : ∀ p', p + 1 = p' + 1 → ∀ k', ks[p']? = some k' → f k' = true := by
  intro p' hp k' hk
  obtain rfl : p = p' := by omega
  rw [hq] at hk; injection hk with hk; subst hk; exact h
theorem FL.read (hr : r ∉ ks) {f : Nat → Bool} {W : World} (h : FL ks Ws r m f W) (h0 : f r = false) : (∃ d, d ≤ ks.length ∧ d ≤ m ∧ W = Ws d) ∧ FL ks Ws r m (fun j => j == r || f j) W := by
  obtain ⟨d, h1, h2, h3, h4⟩ := h
  have hdm : d ≤ m := by
    rcases Nat.lt_or_ge m d with h | h
    · rw [h4 h] at h0; cases h0
    · exact h
  refine ⟨⟨d, h1, hdm, h3⟩, d, h1, fun i k hk => ?_, h3, fun _ => by simp⟩
  have hne : (k == r) = false := by rw [beq_eq_false_iff_ne]; exact fun e => hr (e ▸ List.mem_of_getElem? hk)
  simp only [hne, Bool.false_or]
  exact h2 i k hk
theorem FL.all {p : World → Prop} (h : ∀ d, d ≤ ks.length → p (Ws d)) (x : FXN (FL ks Ws r m)) : p x.W := by
  obtain ⟨W, f, d, h1, _, h3, _⟩ := x
  subst h3; exact h d h1
end
section
variable {P : Program} {ops : Array Oper} {rest : List Oper} {o : Oper} {a : Act} {Q : Act → Prop} {F : (Nat → Bool) → World → Prop} {js : List Nat} {k : Nat} {md : Region.Mode}
/-- a store, where others that it waits for are done -/
theorem wpN_storeD (hD : Dep F js) (hi : ops[k]? = some o) (ty : TypeId) (px py : Operand) (ho : o.op = .store ty px py) (hw : Region.wanted o (yielded ops a.tmps) = true) {p u : Value} (hx : a.eval px = p) (hy : a.eval py = u) (dep : List Nat) (hd : (dep.all fun j => o.after.any fun e => Region.binds md e && e.on == j) = true)
    (hs : ∀ f W, F f W → f k = false → (∀ j ∈ dep, f j = true) → ∃ W', (Instr.storeAt ty p u).run P W = .ok () W' ∧ F (fun i => i == k || f i) W') (h : wpF P md ops (CN F) Q rest (k + 1) (a.put o.dst undef)) : wpF P md ops (CN F) Q (o :: rest) k a := by
  refine ⟨undef, .inl ⟨hw, fun listed W hl hW => ?_⟩, h⟩
  have hk : listed.getD k false = false := by
    have h1 := (mem_ready.1 hl).1
    rcases Nat.lt_or_ge k listed.size with h' | h'
    · simp [h'] at h1 ⊢; exact h1
    · simp [Array.getElem?_eq_none h'] at h1 
  obtain ⟨W', h1, h2⟩ := hs _ W hW hk (fun j hj => ready_after hi (List.all_eq_true.1 hd j hj) hl)
  unfold execOp
  simp only [ho, hx, hy, Sem.run_bind, h1, Result.andThen_ok, Sem.run_pure, uponF, true_and]
  refine hD _ _ _ (fun j hj => ?_) h2
  by_cases hjk : j = k
  · subst hjk
    rw [(getD_on (mem_ready.1 hl).1).2]; simp
  · have hne : k ≠ j := Ne.symm hjk
    rw [getD_set_ne false hne]; simp [hjk]
end
end Go.Proofs.YtmbokdnndlnjkaaGreat
