/- Contracts of the functions that the laws 'N' reach, part 5. No condition. -/
import Derived.Test.YtodbbacmdjcheaaMNd
set_option linter.unusedVariables false
set_option linter.unusedSimpArgs false
namespace Go.Proofs.Ytodbbacmdjcheaa
open Go.RowKit L01 L02 L05 L14
set_option maxHeartbeats 1000000 in
theorem HCheck_any (b : Hb) (r : Int) (hr : r = hErr b) (w : World) : Calls Try.prog 57 #[.agg #[.int .i64 b.at_, .int .i64 b.size, .int .i64 b.kind, .int .i64 b.ty, .bool b.mark, .int .u64 b.next.toNat]] w fun e w' => e = .returned (.int .i64 r) ∧ Below w.heap.size w w' := by
  have HB := Lib.hid hr; clear hr
  obtain ⟨at_, size, kind, ty, mark, next⟩ := b
  dsimp only at *
  cases mark
  all_goals
    go_enter Try.func57, Try.ntmps57
    go_wp2
    all_goals
      go_ret
      refine ⟨ret_int ?_, (Below.refl _ _).alloc (Nat.le_refl _) _⟩
      rw [HB.out]
      try simp only [Bool.not_eq_true', Bool.not_eq_false', decide_eq_true_eq, decide_eq_false_iff_not, beq_eq_false_iff_ne, beq_iff_eq, bne_iff_ne, bne_eq_false_iff_eq, ne_eq] at *
      first
      | exact (hErr_ok (by simp [BkOk, ObjB, FreeB]; try omega)).symm
      | exact (hErr_no (by simp [BkOk, ObjB, FreeB]; try omega)).symm
theorem mask32_any (w : World) : Calls Try.prog 105 #[.int .i64 0, .int .i64 32] w fun e w' => e = .returned (.int .u64 4294967295) ∧ w = w' := by
  go_enter Try.func105, Try.ntmps105
  go_wp2
  go_ret
  exact ⟨rfl, rfl⟩
theorem Get32_any (x : UInt64) (r : Nat) (hr : r = x.toNat % 4294967296) (w : World) : Calls Try.prog 95 #[.int .u64 x.toNat, .int .i64 0, .int .i64 32] w fun e w' => e = .returned (.tuple #[.int .u64 (r : Int), .int .i64 0]) ∧ w = w' := by
  have hxl := toNat_lt x
  have e1 := and_int (a := (x.toNat : Int)) 32 (by omega) (by omega) 4294967295 (by decide) (by omega)
  rw [show ((2 ^ 32 : Nat) : Int) = 4294967296 from rfl] at e1
  have e2 : (x.toNat : Int) % 4294967296 = (r : Int) := by rw [hr]; omega
  have e3 := e1.trans e2
  clear hr e1 e2
  go_enter Try.func95, Try.ntmps95
  go_wp2_with fail
  refine (mask32_any _).mono ?_
  rintro e w' ⟨rfl, rfl⟩
  go_wp2
  go_ret2
  exact ⟨rfl, rfl⟩
theorem Low32_any (v : Value) (l : List UInt64) (r : Nat) (hr : r = (sum l).toNat % 4294967296) (hl : l.length ≤ 2048) (w : World) (h : Words w v l) :
    Calls Try.prog 84 #[v, .int .i64 32] w fun e w' => e = .returned (.tuple #[.int .u64 (r : Int), .int .i64 0]) ∧ Below w.heap.size w w' := by
  obtain ⟨S, hS⟩ : ∃ S, S = sum l := ⟨_, rfl⟩
  rw [← hS] at hr
  have GT := Lib.hid (fun w => Get32_any S r hr w)
  have HO : Hid (∀ w, Words w v l → Calls Try.prog 67 #[v] w fun e w' => e = .returned (.tuple #[.int .u64 S.toNat, .int .i64 0]) ∧ Below w.heap.size w w') := by
    rw [hS]; exact Lib.hid (fun w h => Of_any v l w h hl)
  have B : Below w.heap.size w w := Below.refl _ _
  have H := Lib.hid h; clear h hr hS
  go_enter Try.func84, Try.ntmps84
  go_wp2_with fail
  refine (HO.out _ (H.out.below B)).mono ?_
  rintro e wa1 ⟨rfl, b⟩
  replace B := B.trans (b.mono B.size); clear b
  go_wp2_with fail
  refine (GT.out _).mono ?_
  rintro e w' ⟨rfl, rfl⟩
  go_wp2
  go_ret2
  exact ⟨rfl, B⟩
theorem lit_one {w : World} {e n : Nat} (x : UInt64) (hn : w.heap.size = n) : Words (w.alloc (.cells #[.int .u64 x.toNat] e)) (.slice (some ⟨n, 0, none⟩) 1 1) [x] := by
  subst hn; exact lit_words [x] rfl rfl (by simp)
set_option maxRecDepth 100000 in
theorem sealed_any (x : UInt64) (r : Nat) (hx : x.toNat < 4294967296) (hr : r = x.toNat + partN x * 4294967296) (w : World) :
    Calls Try.prog 59 #[.int .u64 x.toNat] w fun e w' => e = .returned (.tuple #[.int .u64 (r : Int), .int .i64 0]) ∧ Below w.heap.size w w' := by
  have B : Below w.heap.size w w := Below.refl _ _
  obtain ⟨p, hp⟩ : ∃ p, p = partN x := ⟨_, rfl⟩
  have hpl : p < 4294967296 := by rw [hp]; exact part_lt x
  have hp2 : (sum [x]).toNat % 4294967296 = p := hp.symm
  have LO := Lib.hid (fun v w h => Low32_any v [x] p hp2.symm (by simp) w h)
  have e1 := or_int (a := (x.toNat : Int)) (b := (p : Int) * 4294967296) 32 p (by omega) (by simp; omega) (by omega) (by omega) (by omega)
  have e2 : IntKind.u64.wrap ((p : Int) * 4294967296) = (p : Int) * 4294967296 := by rw [wrap_u64]; omega
  rw [← hp] at hr
  have HR := Lib.hid hr; clear hp hr hp2
  go_enter Try.func59, Try.ntmps59
  go_wp2_with fail
  refine (LO.out _ _ (lit_one x rfl)).mono ?_
  rintro e w' ⟨rfl, b⟩
  replace B := (B.alloc B.size _).trans (b.mono (by simp))
  go_wp2
  go_ret2
  exact ⟨by rw [HR.out]; congr 3, B⟩
set_option maxHeartbeats 1000000 in
theorem of_any (b : Hb) (hb : BkOk b) (lw : Nat) (hlw : lw = lowN b) (w : World) :
    Calls Try.prog 58 #[.agg #[.int .i64 b.at_, .int .i64 b.size, .int .i64 b.kind, .int .i64 b.ty, .bool b.mark, .int .u64 b.next.toNat]] w fun e w' => e = .returned (.agg #[.int .u64 (lw : Int), .int .u64 b.kind, .int .u64 b.ty, .int .u64 b.size, .int .u64 (mk1 b.mark : Nat)]) ∧ Below w.heap.size w w' := by
  have B : Below w.heap.size w w := Below.refl _ _
  obtain ⟨h1, h2, h3, h4, h5, h6⟩ := hb.bounds
  obtain ⟨at_, size, kind, ty, mark, next⟩ := b
  dsimp only at *
  obtain ⟨S, rfl⟩ := Int.eq_ofNat_of_zero_le (show 0 ≤ size by omega)
  obtain ⟨K, rfl⟩ := Int.eq_ofNat_of_zero_le (show 0 ≤ kind by omega)
  obtain ⟨T, rfl⟩ := Int.eq_ofNat_of_zero_le h5
  have w1 : IntKind.u64.wrap (K : Int) = K := by rw [wrap_u64]; omega
  have w2 : IntKind.u64.wrap (T : Int) = T := by rw [wrap_u64]; omega
  have w3 : IntKind.u64.wrap (S : Int) = S := by rw [wrap_u64]; omega
  have w4 : IntKind.u64.wrap ((T : Int) * 512) = (T : Int) * 512 := by rw [wrap_u64]; omega
  have w5 : IntKind.u64.wrap ((S : Int) * 65536) = (S : Int) * 65536 := by rw [wrap_u64]; omega
  have HL := Lib.hid hlw; clear hlw hb
  cases mark
  · have o1 := or_int (a := (K : Int)) (b := (T : Int) * 512) 9 T (by omega) (by simp; omega) (by omega) (by omega) (by omega)
    have o2 := or_int (a := (K : Int) + (T : Int) * 512) (b := (S : Int) * 65536) 16 S (by omega) (by simp; omega) (by omega) (by omega) (by omega)
    have o0 := or_int (a := (K : Int)) (b := 0) 9 0 (by omega) (by simp; omega) (by omega) (by omega) (by omega)
    rw [Int.add_zero] at o0
    go_enter Try.func58, Try.ntmps58
    go_wp2
    refine bodyPost_ret (v := .agg #[.int .u64 (lw : Int), .int .u64 K, .int .u64 T, .int .u64 S, .int .u64 0]) (by simp [results, Try.results58, go_sem, HL.out, lowN, mk1]) rfl ⟨rfl, ?_⟩
    (repeat (first | refine Below.setCell ?_ (by first | exact Nat.le_refl _ | (simp <;> omega)) _ | refine Below.alloc ?_ (by first | exact B.size | (have := B.size; simp <;> omega)) _)); exact B
  · have o0 := or_int (a := (K : Int)) (b := 256) 8 1 (by omega) (by simp; omega) (by omega) (by omega) (by omega)
    have o1 := or_int (a := (K : Int) + 256) (b := (T : Int) * 512) 9 T (by omega) (by simp; omega) (by omega) (by omega) (by omega)
    have o2 := or_int (a := (K : Int) + 256 + (T : Int) * 512) (b := (S : Int) * 65536) 16 S (by omega) (by simp; omega) (by omega) (by omega) (by omega)
    go_enter Try.func58, Try.ntmps58
    go_wp2
    refine bodyPost_ret (v := .agg #[.int .u64 (lw : Int), .int .u64 K, .int .u64 T, .int .u64 S, .int .u64 1]) (by simp [results, Try.results58, go_sem, HL.out, lowN, mk1]) rfl ⟨rfl, ?_⟩
    (repeat (first | refine Below.setCell ?_ (by first | exact Nat.le_refl _ | (simp <;> omega)) _ | refine Below.alloc ?_ (by first | exact B.size | (have := B.size; simp <;> omega)) _)); exact B
theorem form_low (a b c d e : Int) (W : World) : (Instr.field 130 (.agg #[.int .u64 a, .int .u64 b, .int .u64 c, .int .u64 d, .int .u64 e]) 0).run Try.prog W = .ok (.int .u64 a) W := by kernel_rfl
set_option maxRecDepth 100000 in
theorem HWord_any (b : Hb) (v : UInt64) (r : Int) (hv : v = word b) (hr : r = hErr b) (w : World) :
    Calls Try.prog 30 #[.agg #[.int .i64 b.at_, .int .i64 b.size, .int .i64 b.kind, .int .i64 b.ty, .bool b.mark, .int .u64 b.next.toNat]] w fun e w' => e = .returned (.tuple #[.int .u64 v.toNat, .int .i64 r]) ∧ Below w.heap.size w w' := by
  have B : Below w.heap.size w w := Below.refl _ _
  have CT := Lib.hid (fun w => HCheck_any b r hr w)
  by_cases hb : BkOk b
  · rw [hErr_ok hb] at hr
    have hn := word_nat hb
    rw [← hv] at hn
    have hlt := lowN_lt hb
    obtain ⟨x, hx⟩ : ∃ x : UInt64, x = UInt64.ofNat (lowN b) := ⟨_, rfl⟩
    have hxn : x.toNat = lowN b := by rw [hx, UInt64.toNat_ofNat', Nat.mod_eq_of_lt (by omega)]
    have OT := Lib.hid (fun w => of_any b hb x.toNat hxn w)
    have ST := Lib.hid (fun w => sealed_any x v.toNat (by omega) (by rw [hn, wordN, ← hx, hxn]) w)
    subst hr
    have hf := fun W => form_low (x.toNat : Int) b.kind b.ty b.size (mk1 b.mark : Nat) W
    clear hv hb hn hlt hx hxn
    go_enter Try.func30, Try.ntmps30
    go_upto_region 1 with (fail)
    refine wp_gen (fun Wv => Bx Wv (w.heap.size) (84) (#[.int .i64 b.at_, .int .i64 b.size, .int .i64 b.kind, .int .i64 b.ty, .bool b.mark, .int .u64 b.next.toNat]) ∧ Below w.heap.size w Wv) ⟨((Bx.at_ (by simp))), ((Below.refl _ w).alloc (by simp <;> omega) _)⟩ ?_
    rintro wa1 ⟨g1, b⟩
    replace B := B.trans (b.mono B.size); clear b
    have c_g1 := g1.cell; have f_g1 := g1.free; have a_g1 := fun o => (g1.alloc o).cell; have d_g1 := fun o o2 => ((g1.alloc o).alloc o2).cell; have e_g1 := fun o => (g1.alloc o).free
    go_wp2_with fail
    refine (CT.out _).mono ?_
    rintro e wa2 ⟨rfl, b⟩
    try clear c_g1 f_g1 a_g1 d_g1 e_g1
    replace g1 := g1.below b; have c_g1 := g1.cell; have f_g1 := g1.free; have a_g1 := fun o => (g1.alloc o).cell; have d_g1 := fun o o2 => ((g1.alloc o).alloc o2).cell; have e_g1 := fun o => (g1.alloc o).free; replace B := B.trans (b.mono B.size); clear b
    go_wp2_with fail
    refine (OT.out _).mono ?_
    rintro e wa3 ⟨rfl, b⟩
    try clear c_g1 f_g1 a_g1 d_g1 e_g1
    replace g1 := g1.below b; have c_g1 := g1.cell; have f_g1 := g1.free; have a_g1 := fun o => (g1.alloc o).cell; have d_g1 := fun o o2 => ((g1.alloc o).alloc o2).cell; have e_g1 := fun o => (g1.alloc o).free; replace B := B.trans (b.mono B.size); clear b
    go_wp2_with fail
    refine (ST.out _).mono ?_
    rintro e wa4 ⟨rfl, b⟩
    try clear c_g1 f_g1 a_g1 d_g1 e_g1
    replace g1 := g1.below b; have c_g1 := g1.cell; have f_g1 := g1.free; have a_g1 := fun o => (g1.alloc o).cell; have d_g1 := fun o o2 => ((g1.alloc o).alloc o2).cell; have e_g1 := fun o => (g1.alloc o).free; replace B := B.trans (b.mono B.size); clear b
    go_wp2
    go_ret2
    exact ⟨rfl, B⟩
  · rw [hErr_no hb] at hr
    have hv0 : v = 0 := by rw [hv, word, if_neg hb]
    subst hr; subst hv0
    clear hv hb
    go_enter Try.func30, Try.ntmps30
    go_upto_region 1 with (fail)
    refine wp_gen (fun Wv => Bx Wv (w.heap.size) (84) (#[.int .i64 b.at_, .int .i64 b.size, .int .i64 b.kind, .int .i64 b.ty, .bool b.mark, .int .u64 b.next.toNat]) ∧ Below w.heap.size w Wv) ⟨((Bx.at_ (by simp))), ((Below.refl _ w).alloc (by simp <;> omega) _)⟩ ?_
    rintro wa1 ⟨g1, b⟩
    replace B := B.trans (b.mono B.size); clear b
    have c_g1 := g1.cell; have f_g1 := g1.free; have a_g1 := fun o => (g1.alloc o).cell; have d_g1 := fun o o2 => ((g1.alloc o).alloc o2).cell; have e_g1 := fun o => (g1.alloc o).free
    go_wp2_with fail
    refine (CT.out _).mono ?_
    rintro e wa2 ⟨rfl, b⟩
    try clear c_g1 f_g1 a_g1 d_g1 e_g1
    replace g1 := g1.below b; have c_g1 := g1.cell; have f_g1 := g1.free; have a_g1 := fun o => (g1.alloc o).cell; have d_g1 := fun o o2 => ((g1.alloc o).alloc o2).cell; have e_g1 := fun o => (g1.alloc o).free; replace B := B.trans (b.mono B.size); clear b
    go_wp2
    go_ret2
    exact ⟨rfl, B⟩
set_option maxRecDepth 100000 in
set_option maxHeartbeats 1000000 in
theorem HSplit_any (x : UInt64) (b : Hb) (r : Int) (hb : b = split x) (hr : r = splE x) (w : World) :
    Calls Try.prog 102 #[.int .u64 x.toNat] w fun e w' => e = .returned (.tuple #[.agg #[.int .i64 b.at_, .int .i64 b.size, .int .i64 b.kind, .int .i64 b.ty, .bool b.mark, .int .u64 b.next.toNat], .int .i64 r]) ∧ Below w.heap.size w w' := by
  have B : Below w.heap.size w w := Below.refl _ _
  have hxl := toNat_lt x
  obtain ⟨t, ht⟩ : ∃ t, t = told x := ⟨_, rfl⟩
  obtain ⟨v, hv⟩ : ∃ v, v = word t := ⟨_, rfl⟩
  obtain ⟨e, he⟩ : ∃ e, e = hErr t := ⟨_, rfl⟩
  have WT := Lib.hid (fun w => HWord_any t v e hv he w)
  have a1 := and_int (a := (x.toNat : Int)) 8 (by omega) (by omega) 255 (by decide) (by omega)
  have a2 := and_int (a := (x.toNat : Int) / 256) 1 (by omega) (by omega) 1 (by decide) (by omega)
  have a3 := and_int (a := (x.toNat : Int) / 512) 7 (by omega) (by omega) 127 (by decide) (by omega)
  have a4 := and_int (a := (x.toNat : Int) / 65536) 16 (by omega) (by omega) 65535 (by decide) (by omega)
  rw [show ((2 ^ 8 : Nat) : Int) = 256 from rfl] at a1
  rw [show ((2 ^ 1 : Nat) : Int) = 2 from rfl] at a2
  rw [show ((2 ^ 7 : Nat) : Int) = 128 from rfl] at a3
  rw [show ((2 ^ 16 : Nat) : Int) = 65536 from rfl] at a4
  have i1 : IntKind.i64.wrap ((x.toNat : Int) % 256) = (x.toNat : Int) % 256 := IntWalk.i64_in _ (by omega)
  have i3 : IntKind.i64.wrap ((x.toNat : Int) / 512 % 128) = (x.toNat : Int) / 512 % 128 := IntWalk.i64_in _ (by omega)
  have i4 : IntKind.i64.wrap ((x.toNat : Int) / 65536 % 65536) = (x.toNat : Int) / 65536 % 65536 := IntWalk.i64_in _ (by omega)
  have t1 : (x.toNat : Int) % 256 = t.kind := by rw [ht]; rfl
  have t3 : (x.toNat : Int) / 512 % 128 = t.ty := by rw [ht]; rfl
  have t4 : (x.toNat : Int) / 65536 % 65536 = t.size := by rw [ht]; rfl
  have t2 : ((x.toNat : Int) / 256 % 2 == 1) = t.mark := by
    rw [ht, Bool.eq_iff_iff, beq_iff_eq]
    show _ ↔ decide (x.toNat / 256 % 2 = 1) = true
    rw [decide_eq_true_iff]; omega
  have t5 : t.at_ = 0 := by rw [ht]; rfl
  have t6 : t.next = 0 := by rw [ht]; rfl
  have hcase : (e = 0 ∧ v = x ∧ b = t ∧ r = 0) ∨ (e ≠ 0 ∧ b = .none ∧ r = 50) ∨ (e = 0 ∧ v ≠ x ∧ b = .none ∧ r = 50) := by
    by_cases hk : BkOk t
    · by_cases hw : v = x
      · have hd : HdOk x := ⟨by rw [← ht]; exact hk, by rw [← ht, ← hv]; exact hw⟩
        exact .inl ⟨by rw [he, hErr_ok hk], hw, by rw [hb, split_told hd, ht], by rw [hr, splE, if_pos hd]⟩
      · have hd : ¬ HdOk x := fun h => hw (by rw [hv, ht]; exact h.2)
        exact .inr (.inr ⟨by rw [he, hErr_ok hk], hw, by rw [hb, split, if_neg hd], by rw [hr, splE, if_neg hd]⟩)
    · have hd : ¬ HdOk x := fun h => hk (by rw [ht]; exact h.1)
      exact .inr (.inl ⟨by rw [he, hErr_no hk]; decide, by rw [hb, split, if_neg hd], by rw [hr, splE, if_neg hd]⟩)
  obtain ⟨at_, size, kind, ty, mark, next⟩ := t
  dsimp only at t1 t2 t3 t4 t5 t6
  subst t5; subst t6
  have q1 := a1.trans t1; have q3 := a3.trans t3; have q4 := a4.trans t4
  have j1 : IntKind.i64.wrap kind = kind := by rw [← t1]; exact i1
  have j3 : IntKind.i64.wrap ty = ty := by rw [← t3]; exact i3
  have j4 : IntKind.i64.wrap size = size := by rw [← t4]; exact i4
  have WT' : Hid (∀ w, Calls Try.prog 30 #[.agg #[.int .i64 0, .int .i64 size, .int .i64 kind, .int .i64 ty, .bool mark, .int .u64 0]] w fun e_1 w' => e_1 = .returned (.tuple #[.int .u64 v.toNat, .int .i64 e]) ∧ Below w.heap.size w w') := WT
  clear ht hv he hb hr WT a1 a3 a4 i1 i3 i4 t1 t3 t4
  go_enter Try.func102, Try.ntmps102
  go_upto_region 2 with (fail)
  refine wp_gen (fun Wv => Bx Wv (w.heap.size) (84) (#[.int .i64 0, .int .i64 0, .int .i64 0, .int .i64 0, .bool false, .int .u64 0]) ∧ Bx Wv (w.heap.size + 1) (84) (#[.int .i64 0, .int .i64 size, .int .i64 kind, .int .i64 ty, .bool mark, .int .u64 0]) ∧ Below w.heap.size w Wv) ⟨(((Bx.at_ (by simp)).alloc _)), ((Bx.at_ (by simp))), (((Below.refl _ w).alloc (by simp <;> omega) _).alloc (by simp <;> omega) _)⟩ ?_
  rintro wa1 ⟨g1, g2, b⟩
  replace B := B.trans (b.mono B.size); clear b
  have c_g1 := g1.cell; have f_g1 := g1.free; have a_g1 := fun o => (g1.alloc o).cell; have d_g1 := fun o o2 => ((g1.alloc o).alloc o2).cell; have e_g1 := fun o => (g1.alloc o).free
  have c_g2 := g2.cell; have f_g2 := g2.free; have a_g2 := fun o => (g2.alloc o).cell; have d_g2 := fun o o2 => ((g2.alloc o).alloc o2).cell; have e_g2 := fun o => (g2.alloc o).free
  go_wp2_with fail
  refine (WT'.out _).mono ?_
  rintro e wa2 ⟨rfl, b⟩
  try clear c_g1 f_g1 a_g1 d_g1 e_g1
  replace g1 := g1.below b; have c_g1 := g1.cell; have f_g1 := g1.free; have a_g1 := fun o => (g1.alloc o).cell; have d_g1 := fun o o2 => ((g1.alloc o).alloc o2).cell; have e_g1 := fun o => (g1.alloc o).free; try clear c_g2 f_g2 a_g2 d_g2 e_g2
  replace g2 := g2.below b; have c_g2 := g2.cell; have f_g2 := g2.free; have a_g2 := fun o => (g2.alloc o).cell; have d_g2 := fun o o2 => ((g2.alloc o).alloc o2).cell; have e_g2 := fun o => (g2.alloc o).free; replace B := B.trans (b.mono B.size); clear b
  rcases hcase with ⟨rfl, rfl, rfl, rfl⟩ | ⟨h1, rfl, rfl⟩ | ⟨rfl, h1, rfl, rfl⟩
  · go_wp2
    refine bodyPost_ret (v := .tuple #[.agg #[.int .i64 0, .int .i64 size, .int .i64 kind, .int .i64 ty, .bool mark, .int .u64 0], .int .i64 0]) (by simp [results, Try.results102, go_sem, c_g1, f_g1, a_g1, e_g1, c_g2, f_g2, a_g2, e_g2]) rfl ?_
    refine ⟨rfl, ?_⟩
    (repeat (first | refine Below.setCell ?_ (by first | exact Nat.le_refl _ | (simp <;> omega)) _ | refine Below.alloc ?_ (by first | exact B.size | (have := B.size; simp <;> omega)) _)); exact B
  · have n1 : (e != 0) = true := by rw [bne_iff_ne]; exact h1
    go_wp2
    refine bodyPost_ret (v := .tuple #[.agg #[.int .i64 0, .int .i64 0, .int .i64 0, .int .i64 0, .bool false, .int .u64 0], .int .i64 50]) (by simp [results, Try.results102, go_sem, c_g1, f_g1, a_g1, e_g1, c_g2, f_g2, a_g2, e_g2]) rfl ?_
    refine ⟨rfl, ?_⟩
    (repeat (first | refine Below.setCell ?_ (by first | exact Nat.le_refl _ | (simp <;> omega)) _ | refine Below.alloc ?_ (by first | exact B.size | (have := B.size; simp <;> omega)) _)); exact B
  · have n1 : ((v.toNat : Int) != (x.toNat : Int)) = true := by rw [bne_iff_ne]; intro e; exact h1 (UInt64.toNat.inj (by omega))
    go_wp2
    refine bodyPost_ret (v := .tuple #[.agg #[.int .i64 0, .int .i64 0, .int .i64 0, .int .i64 0, .bool false, .int .u64 0], .int .i64 50]) (by simp [results, Try.results102, go_sem, c_g1, f_g1, a_g1, e_g1, c_g2, f_g2, a_g2, e_g2]) rfl ?_
    refine ⟨rfl, ?_⟩
    (repeat (first | refine Below.setCell ?_ (by first | exact Nat.le_refl _ | (simp <;> omega)) _ | refine Below.alloc ?_ (by first | exact B.size | (have := B.size; simp <;> omega)) _)); exact B
end Go.Proofs.Ytodbbacmdjcheaa
namespace Go.Proofs.Ytodbbacmdjcheaa
open Go.RowKit L02
theorem New_any (n : Int) (w : World) : Calls Try.prog 26 #[.int .i64 n] w (RetWE w (new n) (newErr n)) := by
  by_cases hs : SizeOk n
  · have h0 : 0 ≤ n := by have := hs.1; omega
    have h2 : n ≤ 2048 := hs.2.1
    obtain ⟨m, rfl⟩ := Int.eq_ofNat_of_zero_le h0
    have HS := Lib.hid hs; clear hs
    go_enter Try.func26, Try.ntmps26
    go_wp2_with (first
      | (go_at_call 53; refine (Size_any _ true (decide_eq_true HS.out).symm _).mono ?_; rintro e w' ⟨rfl, rfl⟩)
      | (at_make
         refine wpList_make (by rfl) rfl rfl rfl Try.underlying25 info_u64 rfl (by omega) (by omega) (Below.refl w.heap.size w) (Nat.le_refl _) ?_
         intro v1 w1 hown hbel))
    go_ret2
    refine ⟨v1, ?_, OwnW.of hown ?_, hbel⟩
    · simp [newErr, HS.out]
    · simp [new, HS.out, u64]
  · have HS := Lib.hid hs; clear hs
    go_enter Try.func26, Try.ntmps26
    go_wp2_with (go_at_call 53; refine (Size_any _ false (decide_eq_false HS.out).symm _).mono ?_; rintro e w' ⟨rfl, rfl⟩)
    go_ret2
    refine ⟨_, ?_, OwnW.of (World.ownsRow_nil _ _ _ _) ?_, Below.refl _ _⟩
    · simp [newErr, HS.out]
    · simp [new, HS.out]
end Go.Proofs.Ytodbbacmdjcheaa
namespace Go.Proofs.Ytodbbacmdjcheaa
open Go.RowKit Go.Shelf L02 L05 L06 L13 L14 L19 L73
/-- P36.1: the error of words and types -/
def imgErr (n : Int) (T : List (List UInt8)) : Int := if ¬ SizeOk n then 2 else if 8 < T.length then 4 else errT T
def imgP (n : Int) (T : List (List UInt8)) : List UInt64 := if imgErr n T = 0 then imageP n.toNat T else []
theorem own_atM {A B : World} {Bs e sz n M : Nat} {v : Value} {xs : List Value} (h : A.ownsRow Bs e sz v n xs) (hv : ∀ g, v.ownBlock = some g → g < M) (hb : Below M A B) : B.ownsRow Bs e sz v n xs := by
  refine ⟨h.1, h.2.imp id ?_⟩
  rintro ⟨g, cap, cur, h1, h2, h3, h4⟩
  exact ⟨g, cap, cur, h1, h2, (hb.block g (hv g (by rw [h1]; rfl))).trans h3, h4⟩
theorem own_one94 {w : World} {B E : Nat} {v : Value} {l : List UInt64} (h : OwnW w B E v l) : ∃ A n c, v = .slice A n c := by
  obtain ⟨A, c, h, _⟩ := Rd.of_own h; exact ⟨A, _, c, h⟩
theorem arr_words94 {w : World} {g : Nat} {t : TypeId} {a b : UInt64} (h : Bx w g t #[.int .u64 a.toNat, .int .u64 b.toNat]) : Rd w 1 (.slice (some ⟨g, 0, none⟩) 2 2) 2 ([a, b].map u64) :=
  part_words (w := w) (g := g) (n := 2) (c := 2) (cs := #[.int .u64 a.toNat, .int .u64 b.toNat]) [a, b] h rfl rfl rfl (by show 2 ≤ 1048576; omega)
theorem bx_at {A B : World} {g M : Nat} {t : TypeId} {cs : Array Value} (h : Bx A g t cs) (hg : g < M) (hb : Below M A B) : Bx B g t cs := (hb.block g hg).trans h
/-- the state of Image between two rounds -/
structure ImgJ (w A : World) (M g6 g7 tb eb : Nat) (ev : Int) (v tv : Value) (l : List UInt64) : Prop where
  own : OwnW A w.heap.size 64 v l
  blk : ∀ g, v.ownBlock = some g → g < g6
  bel : Below w.heap.size w A
  b6 : Bx A g6 25 #[v]
  b7 : Bx A g7 26 #[.int .i64 ev]
  ct : Bx A tb 22 #[tv]
  ce : Bx A eb 75 #[.pointer (some ⟨g7, 0, none⟩)]
  le : w.heap.size ≤ g6 ∧ g6 < g7 ∧ g7 < tb ∧ tb < eb ∧ eb < M
section
variable {w A B : World} {M g6 g7 tb eb : Nat} {ev : Int} {v tv : Value} {l l' : List UInt64}
theorem ImgJ.below (h : ImgJ w A M g6 g7 tb eb ev v tv l) (hb : Below M A B) : ImgJ w B M g6 g7 tb eb ev v tv l := by
  obtain ⟨h1, h2, h3, h4, h5, h6, h7, h8⟩ := h
  exact ⟨own_atM h1 (fun g hg => by have := h2 g hg; omega) hb, h2, h3.trans (hb.mono (by omega)), bx_at h4 (by omega) hb, bx_at h5 (by omega) hb, bx_at h6 (by omega) hb, bx_at h7 (by omega) hb, h8⟩
theorem ImgJ.grown (h : ImgJ w A M g6 g7 tb eb ev v tv l) (o : OwnW B w.heap.size 64 v l') (b : Below w.heap.size A B) (g : A.grownBy B v.ownBlock) : KeepsFrom M A B ∧ ImgJ w B M g6 g7 tb eb ev v tv l' := by
  obtain ⟨h1, h2, h3, h4, h5, h6, h7, h8⟩ := h
  have ne : ∀ k, g6 ≤ k → v.ownBlock = none ∨ v.ownBlock ≠ some k := fun k hk => .inr fun e => by have := h2 k e; omega
  exact ⟨KeepsFrom.of_grownBy g fun j hj => by have := h2 j hj; omega,
    o, h2, h3.trans b, h4.grown g (ne _ (by omega)), h5.grown g (ne _ (by omega)), h6.grown g (ne _ (by omega)), h7.grown g (ne _ (by omega)), h8⟩
theorem ImgJ.err (h : ImgJ w A M g6 g7 tb eb ev v tv l) (e' : Int) : ImgJ w (A.setCell ⟨g7, 0, none⟩ (.int .i64 e')) M g6 g7 tb eb e' v tv l := by
  obtain ⟨h1, h2, h3, h4, h5, h6, h7, h8⟩ := h
  have ne : v.ownBlock = none ∨ v.ownBlock ≠ some g7 := .inr fun e => by have := h2 g7 e; omega
  exact ⟨World.ownsRow.kept h1 (grownBy_setCell' A g7 _) ne, h2, h3.setCell (p := ⟨g7, 0, none⟩) (by show _ ≤ g7; omega) _, h4.far (by show g6 ≠ g7; omega) _, h5.set _, h6.far (by show tb ≠ g7; omega) _, h7.far (by show eb ≠ g7; omega) _, h8⟩
/-- .. behind the loop: the block of the rounds' deferred calls is there -/
def ImgD (w A : World) (M g6 g7 tb eb : Nat) (ev : Int) (v tv : Value) (l : List UInt64) : Prop := ImgJ w A M g6 g7 tb eb ev v tv l ∧ A.heap[M]? = some (.deferred (some []))
theorem ImgD.below (h : ImgD w A M g6 g7 tb eb ev v tv l) (hb : Below A.heap.size A B) : ImgD w B M g6 g7 tb eb ev v tv l := by
  have hlt := (Array.getElem?_eq_some_iff.1 h.2).1
  exact ⟨h.1.below (hb.mono (by omega)), (hb.block _ hlt).trans h.2⟩
theorem ImgD.err (h : ImgD w A M g6 g7 tb eb ev v tv l) (e' : Int) : ImgD w (A.setCell ⟨g7, 0, none⟩ (.int .i64 e')) M g6 g7 tb eb e' v tv l :=
  ⟨h.1.err e', (KeepsOthers.setCell A _ _).same M _ h.2 rfl⟩
theorem ImgD.grown (h : ImgD w A M g6 g7 tb eb ev v tv l) (o : OwnW B w.heap.size 64 v l') (b : Below w.heap.size A B) (g : A.grownBy B v.ownBlock) : ImgD w B M g6 g7 tb eb ev v tv l' := by
  obtain ⟨h1, h2⟩ := h.1.grown o b g
  exact ⟨h2, h1.same M _ (Nat.le_refl _) h.2 rfl⟩
/-- a row of the call's own, younger than the image -/
theorem own_far94 {Bs e sz n : Nat} {x : Value} {xs : List Value} {row : Option Nat} (h : A.ownsRow Bs e sz x n xs) (g : A.grownBy B row) (hr : ∀ j, row = some j → j < Bs) : B.ownsRow Bs e sz x n xs := by
  refine World.ownsRow.kept h g ?_
  cases hx : x.ownBlock with
  | none => exact .inl rfl
  | some j =>
    refine .inr fun e' => ?_
    have := (h.lt j hx).1
    have := hr j e'.symm
    omega
/-- put, seen from Image -/
theorem putD_any (hD : ImgD w A M g6 g7 tb eb ev v tv l) {m : List UInt64} {a : Nat} {z : Int} {sv : Value} (hz : z = a) (hm : a + m.length ≤ l.length) (hs : Rd A 1 sv m.length (m.map u64)) :
    Calls Try.prog 28 #[v, .int .i64 z, sv] A fun e B => (∃ u, e = .returned u) ∧ ImgD w B M g6 g7 tb eb ev v tv (putW l a m) ∧ A.grownBy B v.ownBlock := by
  subst hz
  refine (put_any v sv l m a w.heap.size hm A hD.1.own hs hD.1.bel.size).mono ?_
  rintro e B ⟨h1, h2, h3, h4⟩
  exact ⟨h1, hD.grown h2 h3 h4, h4⟩
/-- the function's end: the block is shut -/
theorem ImgD.shut (h : ImgD w A M g6 g7 tb eb ev v tv l) : ImgJ w (A.putObj M (.deferred none)) M g6 g7 tb eb ev v tv l := h.1.below (RF.put_below _ (Nat.le_refl _))
end
set_option maxRecDepth 100000 in
set_option maxHeartbeats 4000000 in
theorem Image_any (n : Int) (tv : Value) (T : List (List UInt8)) (w : World) (h : Typs w tv T) : Calls Try.prog 10 #[.int .i64 n, tv] w (RetWE w (imgP n T) (imgErr n T)) := by
  have B : Below w.heap.size w w := Below.refl _ _
  have HB := Lib.hid B
  by_cases hs : ¬ SizeOk n
  · have hne : newErr n = 2 := by simp [newErr, hs]
    have hnw : new n = [] := by simp [new, hs]
    have hE : imgErr n T = 2 := by rw [imgErr, if_pos hs]
    have hI : imgP n T = [] := by rw [imgP, hE, if_neg (by decide)]
    rw [hE, hI]
    have NT := Lib.hid (fun w => (show Calls Try.prog 26 #[.int .i64 n] w (RetWE w [] 2) from by have := New_any n w; rw [hne, hnw] at this; exact this))
    clear hne hnw hE hI hs
    go_enter Try.func10, Try.ntmps10
    go_wp2_with fail
    refine (NT.out _).mono ?_
    rintro e w1 ⟨v, rfl, o, b⟩
    obtain ⟨A0, n0, c0, rfl⟩ := own_one94 o
    replace B := B.trans b; clear b o
    go_upto_region 2 with (fail)
    refine wp_gen (fun Wv => Bx Wv (w1.heap.size) (25) (#[.slice A0 n0 c0]) ∧ Bx Wv (w1.heap.size + 1) (26) (#[.int .i64 2]) ∧ Below w1.heap.size w1 Wv) ⟨(((Bx.at_ (by simp)).alloc _)), ((Bx.at_ (by simp))), (((Below.refl _ w1).alloc (by simp <;> omega) _).alloc (by simp <;> omega) _)⟩ ?_
    rintro wa1 ⟨g6, g7, b⟩
    replace B := B.trans (b.mono B.size); clear b
    have c_g6 := g6.cell; have f_g6 := g6.free; have a_g6 := fun o => (g6.alloc o).cell; have d_g6 := fun o o2 => ((g6.alloc o).alloc o2).cell; have e_g6 := fun o => (g6.alloc o).free
    have c_g7 := g7.cell; have f_g7 := g7.free; have a_g7 := fun o => (g7.alloc o).cell; have d_g7 := fun o o2 => ((g7.alloc o).alloc o2).cell; have e_g7 := fun o => (g7.alloc o).free
    go_wp2_with fail
    go_big_quiet (fail)
    go_wp2
    go_ret2
    exact ⟨_, rfl, OwnW.nil _ _ _, ⟨B.os, B.tape, B.output, B.size, B.block⟩⟩
  · have hs' : SizeOk n := Decidable.not_not.1 hs
    have hne : newErr n = 0 := by simp [newErr, hs']
    obtain ⟨N, rfl⟩ := Int.eq_ofNat_of_zero_le (show 0 ≤ n by have := hs'.1; omega)
    have hnw : new (N : Int) = List.replicate N 0 := by simp [new, hs']
    have hN : 256 ≤ N ∧ N ≤ 2048 := by have := hs'.1; have := hs'.2.1; omega
    have NT := Lib.hid (fun w => (show Calls Try.prog 26 #[.int .i64 N] w (RetWE w (List.replicate N 0) 0) from by have := New_any N w; rw [hne, hnw] at this; exact this))
    have TL := h.len
    have HT := Lib.hid h
    by_cases h8 : 8 < T.length
    · have hE : imgErr N T = 4 := by rw [imgErr, if_neg hs, if_pos h8]
      have hI : imgP N T = [] := by rw [imgP, hE, if_neg (by decide)]
      rw [hE, hI]
      have h8' : (8 : Int) < T.length := by omega
      obtain ⟨t, ht⟩ : ∃ t, t = T.length := ⟨_, rfl⟩
      rw [← ht] at TL h8'
      clear hne hnw hE hI hs hs' ht h8 h hN
      go_enter Try.func10, Try.ntmps10
      go_wp2_with fail
      refine (NT.out _).mono ?_
      rintro e w1 ⟨v, rfl, o, b⟩
      obtain ⟨A0, n0, c0, rfl⟩ := own_one94 o
      replace B := B.trans b; clear b o
      go_upto_region 2 with (fail)
      refine wp_gen (fun Wv => Bx Wv (w1.heap.size) (25) (#[.slice A0 n0 c0]) ∧ Bx Wv (w1.heap.size + 1) (26) (#[.int .i64 0]) ∧ Below w1.heap.size w1 Wv) ⟨(((Bx.at_ (by simp)).alloc _)), ((Bx.at_ (by simp))), (((Below.refl _ w1).alloc (by simp <;> omega) _).alloc (by simp <;> omega) _)⟩ ?_
      rintro wa1 ⟨g6, g7, b⟩
      replace B := B.trans (b.mono B.size); clear b
      have c_g6 := g6.cell; have f_g6 := g6.free; have a_g6 := fun o => (g6.alloc o).cell; have d_g6 := fun o o2 => ((g6.alloc o).alloc o2).cell; have e_g6 := fun o => (g6.alloc o).free
      have c_g7 := g7.cell; have f_g7 := g7.free; have a_g7 := fun o => (g7.alloc o).cell; have d_g7 := fun o o2 => ((g7.alloc o).alloc o2).cell; have e_g7 := fun o => (g7.alloc o).free
      go_wp2
      go_ret2
      exact ⟨_, rfl, OwnW.nil _ _ _, B⟩
    · have h8' : (T.length : Int) ≤ 8 := by omega
      obtain ⟨t, ht⟩ : ∃ t, t = T.length := ⟨_, rfl⟩
      rw [← ht] at TL h8'
      have HE := Lib.hid (show imgErr N T = errT T from by rw [imgErr, if_neg hs, if_neg h8])
      have HTL := Lib.hid ht; have HS := Lib.hid hs'; have HN := Lib.hid hN; have HN0 := Lib.hid hN
      clear hne hnw hs hs' ht h8 h hN
      refine (callsIn_wide (n := 3)).1 ?_
      refine callsIn_of_wp_marks Try.func10 rfl trivial ?_ rfl
      simp only [Try.ntmps10, List.size_toArray, List.length_cons, List.length_nil, Nat.reduceAdd, Nat.reduceSub, Array.replicate_succ, Array.replicate_zero, List.push_toArray, List.append_toArray, List.nil_append, List.cons_append]
      refine wpIn_wide.2 ?_
      go_wp2_with fail
      refine (NT.out _).mono ?_
      rintro e w1 ⟨v, rfl, o, b⟩
      obtain ⟨A0, n0, c0, rfl⟩ := own_one94 o
      replace B := B.trans b; clear b
      have HW := Lib.hid B.size
      have HG := Lib.hid (fun g hg => (o.lt g hg).2)
      go_upto_region 2 with (fail)
      refine wp_gen (fun Wv => Bx Wv (w1.heap.size) (25) (#[.slice A0 n0 c0]) ∧ Bx Wv (w1.heap.size + 1) (26) (#[.int .i64 0]) ∧ Below w1.heap.size w1 Wv) ⟨(((Bx.at_ (by simp)).alloc _)), ((Bx.at_ (by simp))), (((Below.refl _ w1).alloc (by simp <;> omega) _).alloc (by simp <;> omega) _)⟩ ?_
      rintro wa1 ⟨g6, g7, b⟩
      replace o := o.below b; replace B := B.trans (b.mono B.size); clear b
      have c_g6 := g6.cell; have f_g6 := g6.free; have a_g6 := fun o => (g6.alloc o).cell; have d_g6 := fun o o2 => ((g6.alloc o).alloc o2).cell; have e_g6 := fun o => (g6.alloc o).free
      have c_g7 := g7.cell; have f_g7 := g7.free; have a_g7 := fun o => (g7.alloc o).cell; have d_g7 := fun o o2 => ((g7.alloc o).alloc o2).cell; have e_g7 := fun o => (g7.alloc o).free
      go_wp2_with fail
      refine (wordsT_any tv T _ _ (HT.out.below B)).mono ?_
      rintro e w2 ⟨rfl, rfl⟩
      have J0 : ImgJ w ((wa1.alloc (.cells #[tv] 22)).alloc (.cells #[.pointer (some ⟨w1.heap.size + 1, 0, none⟩)] 75)) (wa1.heap.size + 2) w1.heap.size (w1.heap.size + 1) wa1.heap.size (wa1.heap.size + 1) 0 (.slice A0 n0 c0) tv (List.replicate N 0) := by
        have a1 : Below wa1.heap.size wa1 ((wa1.alloc (.cells #[tv] 22)).alloc (.cells #[.pointer (some ⟨w1.heap.size + 1, 0, none⟩)] 75)) := ((Below.refl _ _).alloc (Nat.le_refl _) _).alloc (by simp) _
        have a2 := g7.lt
        refine ⟨own_below o a1, HG.out, B.trans (a1.mono B.size), g6.below a1, g7.below a1, (Bx.new _ _ _).alloc _, ?_, by have := HW.out; omega⟩
        have := Bx.new (wa1.alloc (.cells #[tv] 22)) 75 #[.pointer (some ⟨w1.heap.size + 1, 0, none⟩)]
        rwa [World.size_alloc] at this
      have hsz : ((wa1.alloc (.cells #[tv] 22)).alloc (.cells #[.pointer (some ⟨w1.heap.size + 1, 0, none⟩)] 75)).heap.size = wa1.heap.size + 2 := by simp
      have hb5 : wa1.heap.size + 1 ≠ w1.heap.size := by have := B.size; have := g6.lt; omega
      revert J0 hsz
      generalize ((wa1.alloc (.cells #[tv] 22)).alloc (.cells #[.pointer (some ⟨w1.heap.size + 1, 0, none⟩)] 75)) = w3
      intro J0 hsz
      rw [← hsz] at J0
      obtain ⟨s1, hs1⟩ : ∃ s, s = w1.heap.size := ⟨_, rfl⟩
      obtain ⟨s3, hs3⟩ : ∃ s, s = wa1.heap.size := ⟨_, rfl⟩
      rw [← hs1, ← hs3] at J0
      rw [← hs1, ← hs3]
      clear hs1 hs3 o g6 g7 c_g6 f_g6 a_g6 d_g6 e_g6 c_g7 f_g7 a_g7 d_g7 e_g7 B hb5 HG hsz HW
      go_wp2_with fail
      refine wpIn_wide.1 (RF.wpIn_rangeE (m := 3) (gf := 54) (lb := #[.pointer (some ⟨s3, 0, none⟩), .pointer (some ⟨s3 + 1, 0, none⟩)]) rfl (enters_of Try.func54 (by kernel_rfl) rfl)
        (fun k A => ImgJ w A w3.heap.size s1 (s1 + 1) s3 (s3 + 1) 0 (.slice A0 n0 c0) tv (tysP (List.replicate N 0) T k)) (fun k A B h hb => h.below hb) J0 t (encY T) (fun _ => rfl)
        (fun k A B => (errT T = 0 ∧ k = T.length ∧ B = A) ∨ (errT T ≠ 0 ∧ B = A.setCell ⟨s1 + 1, 0, none⟩ (.int .i64 (errT T)))) ?hR ?hcall ?hround ?hdone)
      case hR =>
        rintro k A B _ (⟨_, _, rfl⟩ | ⟨_, rfl⟩)
        · exact KeepsFrom.refl _ _
        · exact RF.keeps_set _ _ _
      case hcall =>
        intro l J' W h1 h2 h3 h4
        refine wordsT1_any 1 l s3 (s3 + 1) (s1 + 1) tv T (by have := HTL.out; omega) J' h2 (fun k A h => ?_) (fun k A h hk => h3 k A h (by rw [HTL.out]; exact hk)) W h4
        have hj := h1 k A h
        exact ⟨HT.out.below hj.bel, hj.ct.cell 0, hj.ce.cell 0, hj.b7.cell 0, hj.b7.free 0⟩
      case hround =>
        intro l k A hl1 hl2 hj hk
        have hkk := Lib.hid hk; have HJ := Lib.hid hj; have HL1 := Lib.hid hl1; have HL2 := Lib.hid hl2
        clear hk hj hl1 hl2
        have hsem := @Oper.semAt_some
        unfold encY
        obtain ⟨a, ha⟩ : ∃ a, a = w0 (T.getD k []) := ⟨_, rfl⟩
        obtain ⟨c, hc⟩ : ∃ c, c = L13.w1 (T.getD k []) := ⟨_, rfl⟩
        rw [← ha, ← hc]
        have HA := Lib.hid ha; have HC := Lib.hid hc
        clear ha hc
        gi_wp2
        have al := (Below.refl A.heap.size A).alloc (Nat.le_refl _) (.cells #[.int .u64 a.toNat, .int .u64 c.toNat] 76)
        have bx := Bx.new A 76 #[.int .u64 a.toNat, .int .u64 c.toNat]
        refine ⟨RF.keeps_below al, fun r => ?_⟩
        have sA : w3.heap.size ≤ A.heap.size := by have := HL1.out; have := HL2.out; omega
        have jx := (HJ.out.below (al.mono sA)).below (RF.put_below (n := w3.heap.size) (l := l) (.loop r) (Nat.le_of_lt HL1.out))
        have gx : Bx ((A.alloc (.cells #[.int .u64 a.toNat, .int .u64 c.toNat] 76)).putObj l (.loop r)) A.heap.size 76 #[.int .u64 a.toNat, .int .u64 c.toNat] := (World.putObj_heap_other (by have := HL2.out; omega)).trans bx
        clear al bx
        revert jx gx
        generalize (A.alloc (.cells #[.int .u64 a.toNat, .int .u64 c.toNat] 76)).putObj l (.loop r) = X
        intro jx gx
        have c6 := jx.b6.cell
        have JX := Lib.hid jx; have GX := Lib.hid gx; have SA := Lib.hid sA
        clear jx gx sA
        gi_wp2_with fail
        have hmix : Try.prog.follows .mixedOrders = true := by kernel_rfl
        have hlen : (tysP (List.replicate N 0) T k).length = N := by rw [tysP_len, List.length_replicate]
        have PT : Calls Try.prog 28 #[.slice A0 n0 c0, .int .i64 (96 + 2 * (k : Int)), .slice (some ⟨A.heap.size, 0, none⟩) 2 2] X.drew fun e w' => (∃ u, e = .returned u) ∧ OwnW w' w.heap.size 64 (.slice A0 n0 c0) (putW (tysP (List.replicate N 0) T k) (96 + 2 * k) [a, c]) ∧ Below w.heap.size X.drew w' ∧ X.drew.grownBy w' (Value.slice A0 n0 c0).ownBlock := by
          have := put_any (.slice A0 n0 c0) (.slice (some ⟨A.heap.size, 0, none⟩) 2 2) (tysP (List.replicate N 0) T k) [a, c] (96 + 2 * k) w.heap.size (by rw [hlen]; have := HN.out; have := hkk.out; simp; omega) X.drew JX.out.own (arr_words94 GX.out) JX.out.bel.size
          rw [show (((96 + 2 * k : Nat)) : Int) = 96 + 2 * (k : Int) by omega] at this
          exact this
        have HPT := Lib.hid PT; clear PT hlen
        gi_region_with_o (refine ⟨trivial, ?_⟩; gi_at_call 28; refine (CallsIn.inRound l (callsIn_wide.2 HPT.out)).mono ?_; rintro e w' ⟨⟨u, rfl⟩, oo, bb, gg⟩)
        all_goals gi_wp2
        all_goals
          have fin := (JX.out.below (Below.refl w3.heap.size X).drew).grown (l' := tysP (List.replicate N 0) T (k + 1)) (by rw [tysP, ← HA.out, ← HC.out]; exact oo) bb gg
          exact ⟨⟨fin.1.size, fin.1.same⟩, fin.2⟩
      case hdone =>
        intro k A B r hj hr hlt hD
        have D0 : ImgD w (B.putObj (w3.heap.size + 1) (.loop r)) w3.heap.size s1 (s1 + 1) s3 (s3 + 1) (errT T) (.slice A0 n0 c0) tv (tysP (List.replicate N 0) T k) := by
          refine ⟨ImgJ.below (A := B) ?_ (RF.put_below _ (by omega)), (World.putObj_heap_other (by omega)).trans hD⟩
          rcases hr with ⟨h0, _, rfl⟩ | ⟨_, rfl⟩
          · rw [h0]; exact hj
          · exact hj.err _
        have HK := Lib.hid (show errT T = 0 → k = T.length from fun h0 => hr.elim (fun h => h.2.1) (fun h => absurd h0 h.1))
        revert D0
        generalize B.putObj (w3.heap.size + 1) (.loop r) = Y
        clear hr hlt hD hj A B
        intro D0
        have HER : Hid (imgErr N T = errT T ∧ imgP N T = if errT T = 0 then imageP N T else []) := Lib.hid ⟨HE.out, by rw [imgP, HE.out]; rfl⟩
        clear HE
        generalize errT T = er at D0 HK HER
        have c7 := D0.1.b7.cell
        have HD := Lib.hid D0; clear D0
        dsimp only
        by_cases h0 : er = 0
        · have hk := HK.out h0
          subst hk
          subst h0
          have h3 : imgErr N T = 0 ∧ imgP N T = imageP N T := ⟨HER.out.1, by rw [HER.out.2, if_pos rfl]⟩
          have HI := Lib.hid h3
          have hok : SupOk N t := ⟨HS.out, by omega, h8'⟩
          obtain ⟨ws, hws⟩ : ∃ ws, ws = wordsOf N t := ⟨_, rfl⟩
          have hwl : ws.length = 8 := by rw [hws]; exact len_words _ _
          have WT := Lib.hid (fun W => (show Calls Try.prog 29 #[.agg #[.int .i64 N, .int .i64 t]] W (RetWB W ws 0) from by
            have := Write6_any N t W; rw [supErr, write, if_pos hok, if_pos hok, ← hws] at this; exact this))
          have hbk : BkOk ⟨0, (N : Int) - 128, 2, 0, false, 0⟩ := by
            have := HS.out; unfold SizeOk at this; exact ⟨⟨show (2 : Int) ≤ (N : Int) - 128 by omega, show ((N : Int) - 128) % 2 = 0 by omega⟩, .inr ⟨rfl, rfl, rfl, show (N : Int) - 128 ≤ 1920 by omega⟩⟩
          obtain ⟨hv, hhv⟩ : ∃ x, x = word ⟨0, (N : Int) - 128, 2, 0, false, 0⟩ := ⟨_, rfl⟩
          have HT2 := Lib.hid (fun W => (show Calls Try.prog 30 #[.agg #[.int .i64 0, .int .i64 ((N : Int) - 128), .int .i64 2, .int .i64 0, .bool false, .int .u64 0]] W (fun e w' => e = .returned (.tuple #[.int .u64 hv.toNat, .int .i64 0]) ∧ Below W.heap.size W w') from
            HWord_any ⟨0, (N : Int) - 128, 2, 0, false, 0⟩ hv 0 hhv (hErr_ok hbk).symm W))
          have hN := HN.out
          have hwr : IntKind.i64.wrap ((N : Int) - 128) = (N : Int) - 128 := IntWalk.i64_in _ (by omega)
          have HWS := Lib.hid hws; have HWL := Lib.hid hwl; have HHV := Lib.hid hhv
          clear h3 hok hws hwl hbk hhv hN HK HER
          go_wp2_with fail
          refine (WT.out _).mono ?_
          rintro e Y2 ⟨s, rfl, ⟨E, os⟩, b⟩
          have D2 := HD.out.below b
          have c7 := D2.1.b7.cell
          have f7 := D2.1.b7.free
          go_upto_region 13 with (fail)
          have hYM : w3.heap.size < Y.heap.size := (Array.getElem?_eq_some_iff.1 HD.out.2).1
          have hle := D2.1.le
          refine wp_gen (fun V => ImgD w V w3.heap.size s1 (s1 + 1) s3 (s3 + 1) 0 (.slice A0 n0 c0) tv (tysP (List.replicate N 0) T T.length) ∧ OwnW V Y.heap.size E s ws) ⟨D2.err 0, own_far94 os (grownBy_setCell' _ _ _) (fun j hj => by cases hj; omega)⟩ ?_
          rintro Y3 ⟨D3, os3⟩
          have HLE := Lib.hid (And.intro hYM hle)
          clear D2 os c7 f7 b WT HD hYM hle
          have c7 := D3.1.b7.cell
          have H3 := Lib.hid (And.intro D3 os3); clear D3 os3
          go_wp2_with fail
          refine (HT2.out _).mono ?_
          rintro e Y4 ⟨rfl, b⟩
          have D4 := H3.out.1.below b
          have os4 := own_below H3.out.2 b
          clear c7 b H3
          have c7 := D4.1.b7.cell
          have f7 := D4.1.b7.free
          go_upto_region 16 with (fail)
          refine wp_gen (fun V => ImgD w V w3.heap.size s1 (s1 + 1) s3 (s3 + 1) 0 (.slice A0 n0 c0) tv (tysP (List.replicate N 0) T T.length) ∧ OwnW V Y.heap.size E s ws) ⟨D4.err 0, own_far94 os4 (grownBy_setCell' _ _ _) (fun j hj => by cases hj; have := HLE.out; omega)⟩ ?_
          rintro Y5 ⟨D5, os5⟩
          clear D4 os4 c7 f7 HT2
          have c7 := D5.1.b7.cell
          have c6 := D5.1.b6.cell
          have H5 := Lib.hid (And.intro D5 os5); clear D5 os5
          go_wp2_with fail
          have hl0 : (tysP (List.replicate N 0) T T.length).length = N := by rw [tysP_len, List.length_replicate]
          have HL0 := Lib.hid hl0; clear hl0
          refine (putD_any (m := ws) (a := 0) H5.out.1 rfl (by rw [HWL.out, HL0.out]; have := HN0.out; omega) (OwnW.rd H5.out.2)).mono ?_
          rintro e Y6 ⟨⟨u, rfl⟩, D6, g⟩
          have os6 := own_far94 H5.out.2 g (fun j hj => by have := D6.1.blk j hj; have := HLE.out; omega)
          clear c6 c7 H5 g
          have c6 := D6.1.b6.cell
          have H6 := Lib.hid (And.intro D6 os6); clear D6 os6
          go_wp2_with fail
          refine (putD_any (m := ws) (a := 8) H6.out.1 rfl (by rw [putW_len, HWL.out, HL0.out]; have := HN0.out; omega) (OwnW.rd H6.out.2)).mono ?_
          rintro e Y7 ⟨⟨u, rfl⟩, D7, -⟩
          clear c6 H6
          have c6 := D7.1.b6.cell
          have H7 := Lib.hid D7; clear D7
          go_wp2_with fail
          have D8 := H7.out.below ((Below.refl _ _).alloc (Nat.le_refl _) (.cells #[.int .u64 hv.toNat] 64))
          refine (putD_any (m := [hv]) (a := 128) D8 rfl (by rw [putW_len, putW_len, HL0.out]; have := HN0.out; simp; omega) (lit_words [hv] rfl rfl (by simp))).mono ?_
          rintro e Y9 ⟨⟨u, rfl⟩, D9, -⟩
          clear c6 H7 D8
          have c6 := D9.1.b6.cell
          have H9 := Lib.hid D9; clear D9
          go_wp2_with fail
          have D9 := H9.out
          rw [HI.out.1, HI.out.2]
          refine ⟨by simp, .inl ⟨_, _, rfl, run_takeDeferred D9.2, ?_⟩⟩
          refine ⟨_, results_tmp2 rfl _ _ _, _, rfl, ?_, D9.shut.bel⟩
          have hfin : putW (putW (putW (tysP (List.replicate N 0) T T.length) 0 ws) 8 ws) 128 [hv] = imageP N T := by rw [imageP, HWS.out, HTL.out, HHV.out]
          rw [← hfin]; exact D9.shut.own
        · go_wp2_with fail
          go_big_quiet (fail)
          go_wp2
          have D1 := HD.out.below (below_drewN (Below.refl _ Y) nq)
          rw [HER.out.1, HER.out.2, if_neg h0]
          refine ⟨by simp, .inl ⟨_, _, rfl, run_takeDeferred D1.2, ?_⟩⟩
          exact ⟨_, results_tmp2 rfl _ _ _, _, rfl, OwnW.nil _ _ _, D1.shut.bel⟩
end Go.Proofs.Ytodbbacmdjcheaa
namespace Go.Proofs.Ytodbbacmdjcheaa
open Go.RowKit L02 L05 L06 L13 L14 L19 L73
end Go.Proofs.Ytodbbacmdjcheaa
namespace Go.Proofs.Ytodbbacmdjcheaa.L16
open L02 L14 L15 L19
def free (L : List Hb) : List Hb := L.filter fun b => decide (b.kind = 2)
def freeL (l : List UInt64) : List Hb := free (allL l)
def sumN : List Hb → Int
  | [] => 0
  | b :: L => b.size + sumN L
/-- what the object with an index in a list of blocks would become -/
def lowF (L : List Hb) (i : Nat) : Bool := decide (0 < i) && decide ((L.getD (i - 1) .none).kind = 2)
def highF (L : List Hb) (i : Nat) : Bool := decide ((L.getD (i + 1) .none).kind = 2)
def becomes (L : List Hb) (i : Nat) : Hb :=
  ⟨if lowF L i = true then (L.getD (i - 1) .none).at_ else (L.getD i .none).at_, (L.getD i .none).size + (if lowF L i = true then (L.getD (i - 1) .none).size else 0) + (if highF L i = true then (L.getD (i + 1) .none).size else 0), 2, 0, false, 0⟩
/-- the index of the object at an address -/
def objIdx : List Hb → Int → Nat → Option Nat
  | [], _, _ => none
  | b :: L, a, k => if b.at_ = a ∧ b.kind = 1 then some k else objIdx L a (k + 1)
def arErr (l : List UInt64) (a : Int) : Int := if allErr l = 0 then (if (objIdx (allL l) a 0).isSome then 0 else 6) else allErr l
def around (l : List UInt64) (a : Int) : Hb := if arErr l a = 0 then becomes (allL l) ((objIdx (allL l) a 0).getD 0) else .none
def cls (n : Nat) : Nat := Nat.log2 n
def lists (L : List Hb) (k : Nat) : List Int := ((free L).filter fun b => decide (cls b.size.toNat = k)).map fun b => b.at_
theorem free_mem {L : List Hb} {b : Hb} : b ∈ free L ↔ b ∈ L ∧ b.kind = 2 := by unfold free; rw [List.mem_filter]; simp
theorem objIdx_some : ∀ {L : List Hb} {a : Int} {k i : Nat}, objIdx L a k = some i → k ≤ i ∧ ∃ b, L[i - k]? = some b ∧ b.at_ = a ∧ b.kind = 1
  | [], _, _, _, h => by cases h
  | b :: L, a, k, i, h => by
    rw [objIdx] at h
    by_cases hb : b.at_ = a ∧ b.kind = 1
    · rw [if_pos hb] at h; injection h with h; subst h
      exact ⟨Nat.le_refl _, b, by rw [Nat.sub_self]; rfl, hb.1, hb.2⟩
    · rw [if_neg hb] at h
      obtain ⟨h1, c, h2, h3⟩ := objIdx_some h
      exact ⟨by omega, c, by rw [show i - k = i - (k + 1) + 1 by omega]; exact h2, h3⟩
theorem objIdx_none : ∀ {L : List Hb} {a : Int} {k : Nat}, objIdx L a k = none ↔ ∀ b ∈ L, ¬ (b.at_ = a ∧ b.kind = 1)
  | [], _, _ => ⟨fun _ b hb => (by cases hb), fun _ => rfl⟩
  | b :: L, a, k => by
    rw [objIdx]
    by_cases hb : b.at_ = a ∧ b.kind = 1
    · rw [if_pos hb]
      exact ⟨fun h => (by cases h), fun h => absurd hb (h b List.mem_cons_self)⟩
    · rw [if_neg hb, objIdx_none]
      constructor
      · intro h c hc
        rcases List.mem_cons.1 hc with rfl | hc
        · exact hb
        · exact h c hc
      · intro h c hc; exact h c (List.mem_cons_of_mem _ hc)
end Go.Proofs.Ytodbbacmdjcheaa.L16
namespace Go.Proofs.Ytodbbacmdjcheaa.L75
open L02 L05 L06 L07 L13 L14 L15 L16 L19 L73
theorem im0_all : allErr (imageP 256 []) = 0 ∧ freeL (imageP 256 []) = [⟨128, 128, 2, 0, false, 0⟩] ∧ (imageP 256 [])[96]? = some 0 := by decide +kernel
theorem im1_tw : rErr (imageP 256 [[3]]) = 0 ∧ sW (imageP 256 [[3]]) = 256 ∧ sT (imageP 256 [[3]]) = 1 ∧ is0 (imageP 256 [[3]]) = true ∧ is1 (imageP 256 [[3]]) = true ∧ (imageP 256 [[3]])[96]? = some (w0 [3]) ∧ (imageP 256 [[3]])[97]? = some (w1 [3]) := by decide +kernel
end Go.Proofs.Ytodbbacmdjcheaa.L75
