/- Contracts of the functions that the law 'FieldsCalls' reaches, part 7. No condition. -/
import Derived.Test.YtbfmdbeeiicabaaGreatMFCsf
set_option linter.unusedVariables false
set_option linter.unusedSimpArgs false
namespace Go.Proofs.YtbfmdbeeiicabaaGreat
open Go.RowKit L01 L02 L05 L06 L07 L13 L14 L15 L18 L19 L20
theorem ent_own {w : World} {base : Nat} {a : Int} {x : UInt64} (h : base ≤ w.heap.size) : OwnE (w.alloc (.cells #[.int .i64 a, .int .u64 x.toNat] 61)) base (.slice (some ⟨w.heap.size, 0, none⟩) 1 1) [(a, x)] :=
  ⟨rfl, .inr ⟨w.heap.size, 1, #[.int .i64 a, .int .u64 x.toNat], rfl, h, blk_new w _, Nat.le_refl _, by decide, rfl, rfl⟩⟩
theorem setV_f {k : UInt8} {x : UInt64} (h : k.toNat = 2) : setV k x = if FloatOk x then x else no := by
  unfold setV
  by_cases hf : FloatOk x
  · rw [if_neg (fun e => e.2 hf), if_pos hf]
  · rw [if_pos ⟨h, hf⟩, if_neg hf]
theorem setV_o {k : UInt8} {x : UInt64} (h : k.toNat ≠ 2) : setV k x = x := by
  unfold setV; rw [if_neg (fun e => h e.1)]
theorem new_cases {l : List UInt64} {k a nn q i : Nat} {sg : Int} {b : Hb} {t : List UInt8} {kd : UInt8} {x : UInt64} (h : L19.Fd l k a nn q i sg b t kd x) (h3 : kd.toNat = 3) (hx : x ≠ 0) : (newErr l x.toNat = 0 ∨ newErr l x.toNat = 23) ∧ (x.toNat : Int) ≤ 2048 := by
  have rt := h.hd.rt
  obtain ⟨c, hc, e⟩ := (h.ref h3).resolve_left hx
  obtain ⟨a', h1, h2, h3', h4, _, _, _, h8, _⟩ := objs_at rt.al hc
  have := rt.sz.2.1
  have hr : 128 ≤ (x.toNat : Int) ∧ (x.toNat : Int) < 2048 := by rw [← e, h2]; omega
  refine ⟨?_, by omega⟩
  unfold L18.newErr
  rw [if_pos rt.sl, if_pos hr]
  by_cases hn : next (slots l) = none
  · rw [if_pos hn]; exact .inr rfl
  · rw [if_neg hn]; exact .inl rfl
set_option maxRecDepth 100000 in
set_option maxHeartbeats 2000000 in
theorem Get24_any (v : Value) (l : List UInt64) (sl g n : Int) (x : UInt64) (r : Int) (hx : x = giV l sl g n) (hr : r = giE l sl g n) (w : World) (h : Words w v l) :
    Calls Tryz.prog 16 #[v, .agg #[.int .i64 sl, .int .i64 g], .int .i64 n] w fun e w' => e = .returned (.tuple #[.int .u64 x.toNat, .int .i64 r]) ∧ Below w.heap.size w w' := by
  have B : Below w.heap.size w w := Below.refl _ _
  have H := Lib.hid h
  obtain ⟨p, hp⟩ : ∃ p, p = kiAt l sl g n := ⟨_, rfl⟩
  obtain ⟨kd, hkd⟩ : ∃ k, k = kiK l sl g n := ⟨_, rfl⟩
  obtain ⟨e0, he⟩ : ∃ e, e = kiErr l sl g n := ⟨_, rfl⟩
  have FT := Lib.hid (fun w h => find24_any v l sl g n p kd e0 hp hkd he w h)
  have hx0 : r ≠ 0 → x = 0 := fun h0 => by rw [hx, giV, if_neg (by rw [← hr]; exact h0)]
  by_cases h0 : e0 = 0
  case neg =>
    have hre : r = e0 := by rw [hr, giE, ← he, if_neg h0]
    obtain rfl := hx0 (by rw [hre]; exact h0)
    subst hre
    have n1 : (r != 0) = true := by rw [bne_iff_ne]; exact h0
    clear hx hr hx0 h hp hkd he h0
    go_enter Tryz.func16, Tryz.ntmps16
    go_upto_region 1 with (fail)
    refine wp_gen (fun Wv => Bx Wv (w.heap.size) (24) (#[.int .i64 sl, .int .i64 g]) ∧ Below w.heap.size w Wv) ⟨((Bx.at_ (by simp))), ((Below.refl _ w).alloc (by simp <;> omega) _)⟩ ?_
    rintro wa1 ⟨g1, b⟩
    replace B := B.trans (b.mono B.size); clear b
    have c_g1 := g1.cell; have f_g1 := g1.free; have a_g1 := fun o => (g1.alloc o).cell; have d_g1 := fun o o2 => ((g1.alloc o).alloc o2).cell; have e_g1 := fun o => (g1.alloc o).free
    go_wp2_with fail
    refine (FT.out _ (H.out.below B)).mono ?_
    rintro e wa2 ⟨rfl, b⟩
    try clear c_g1 f_g1 a_g1 d_g1 e_g1
    replace g1 := g1.below b; have c_g1 := g1.cell; have f_g1 := g1.free; have a_g1 := fun o => (g1.alloc o).cell; have d_g1 := fun o o2 => ((g1.alloc o).alloc o2).cell; have e_g1 := fun o => (g1.alloc o).free; replace B := B.trans (b.mono B.size); clear b
    go_wp2
    go_ret2
    exact ⟨rfl, B⟩
  case pos =>
    subst h0
    by_cases h3 : kd.toNat = 3
    · have hre : r = 42 := by rw [hr, giE, if_pos he.symm, ← hkd, if_pos h3]
      obtain rfl := hx0 (by rw [hre]; decide)
      subst hre
      have k3 : ((kd.toNat : Int) == 3) = true := by rw [beq_iff_eq]; omega
      clear hx hr hx0 h hp hkd he h3
      go_enter Tryz.func16, Tryz.ntmps16
      go_upto_region 1 with (fail)
      refine wp_gen (fun Wv => Bx Wv (w.heap.size) (24) (#[.int .i64 sl, .int .i64 g]) ∧ Below w.heap.size w Wv) ⟨((Bx.at_ (by simp))), ((Below.refl _ w).alloc (by simp <;> omega) _)⟩ ?_
      rintro wa1 ⟨g1, b⟩
      replace B := B.trans (b.mono B.size); clear b
      have c_g1 := g1.cell; have f_g1 := g1.free; have a_g1 := fun o => (g1.alloc o).cell; have d_g1 := fun o o2 => ((g1.alloc o).alloc o2).cell; have e_g1 := fun o => (g1.alloc o).free
      go_wp2_with fail
      refine (FT.out _ (H.out.below B)).mono ?_
      rintro e wa2 ⟨rfl, b⟩
      try clear c_g1 f_g1 a_g1 d_g1 e_g1
      replace g1 := g1.below b; have c_g1 := g1.cell; have f_g1 := g1.free; have a_g1 := fun o => (g1.alloc o).cell; have d_g1 := fun o o2 => ((g1.alloc o).alloc o2).cell; have e_g1 := fun o => (g1.alloc o).free; replace B := B.trans (b.mono B.size); clear b
      go_wp2
      go_ret2
      exact ⟨rfl, B⟩
    · have hre : r = 0 := by rw [hr, giE, if_pos he.symm, ← hkd, if_neg h3]
      have k3 : ((kd.toNat : Int) == 3) = false := by rw [beq_eq_false_iff_ne]; omega
      obtain ⟨k, a, nn, q, i, b, t, kd', x', rfl, rfl, fd⟩ := Fd.of he.symm
      have hxx : x = x' := by rw [hx, giV, if_pos (by rw [← hr]; exact hre), fd.hW]
      have hpp : p = (a : Int) + 2 + (i : Int) := by rw [hp, fd.hAt]; omega
      have HX := Lib.hid fd.hx
      subst hre; subst hxx; subst hpp
      clear hx hr hx0 h hp hkd he h3 fd
      go_enter Tryz.func16, Tryz.ntmps16
      go_upto_region 1 with (fail)
      refine wp_gen (fun Wv => Bx Wv (w.heap.size) (24) (#[.int .i64 k, .int .i64 g]) ∧ Below w.heap.size w Wv) ⟨((Bx.at_ (by simp))), ((Below.refl _ w).alloc (by simp <;> omega) _)⟩ ?_
      rintro wa1 ⟨g1, b⟩
      replace B := B.trans (b.mono B.size); clear b
      have c_g1 := g1.cell; have f_g1 := g1.free; have a_g1 := fun o => (g1.alloc o).cell; have d_g1 := fun o o2 => ((g1.alloc o).alloc o2).cell; have e_g1 := fun o => (g1.alloc o).free
      go_wp2_with fail
      refine (FT.out _ (H.out.below B)).mono ?_
      rintro e wa2 ⟨rfl, b⟩
      try clear c_g1 f_g1 a_g1 d_g1 e_g1
      replace g1 := g1.below b; have c_g1 := g1.cell; have f_g1 := g1.free; have a_g1 := fun o => (g1.alloc o).cell; have d_g1 := fun o o2 => ((g1.alloc o).alloc o2).cell; have e_g1 := fun o => (g1.alloc o).free; replace B := B.trans (b.mono B.size); clear b
      obtain ⟨ad, x2, ia, m0, hx2⟩ := (H.out.below B).at_ (P := Tryz.prog) Tryz.underlying22 one_u64 (k := a + 2 + i) (List.getElem?_eq_some_iff.1 HX.out).1
      obtain rfl : x2 = x := by have := hx2.out; rw [HX.out] at this; injection this with e; exact e.symm
      have ia2 : ∀ W, (Instr.indexAt 22 v (.int .i64 ((a : Int) + 2 + (i : Int)))).run Tryz.prog W = .ok (.pointer (some ad)) W := ia
      clear hx2 ia
      go_wp2
      go_ret2
      exact ⟨rfl, B⟩
set_option maxRecDepth 100000 in
set_option maxHeartbeats 2000000 in
theorem Set24_any (v : Value) (l : List UInt64) (sl g n : Int) (x : UInt64) (E : List (Int × UInt64)) (r : Int) (hx : E = siL l sl g n x) (hr : r = giE l sl g n) (w : World) (h : Words w v l) :
    Calls Tryz.prog 18 #[v, .agg #[.int .i64 sl, .int .i64 g], .int .i64 n, .int .u64 x.toNat] w fun e w' => ∃ y, e = .returned (.tuple #[y, .int .i64 r]) ∧ OwnE w' w.heap.size y E ∧ Below w.heap.size w w' := by
  have B : Below w.heap.size w w := Below.refl _ _
  have H := Lib.hid h
  obtain ⟨p, hp⟩ : ∃ p, p = kiAt l sl g n := ⟨_, rfl⟩
  obtain ⟨kd, hkd⟩ : ∃ k, k = kiK l sl g n := ⟨_, rfl⟩
  obtain ⟨e0, he⟩ : ∃ e, e = kiErr l sl g n := ⟨_, rfl⟩
  have FT := Lib.hid (fun w h => find24_any v l sl g n p kd e0 hp hkd he w h)
  have hx0 : r ≠ 0 → E = [] := fun h0 => by rw [hx, siL, if_neg (by rw [← hr]; exact h0)]
  by_cases h0 : e0 = 0
  case neg =>
    have hre : r = e0 := by rw [hr, giE, ← he, if_neg h0]
    obtain rfl := hx0 (by rw [hre]; exact h0)
    subst hre
    have n1 : (r != 0) = true := by rw [bne_iff_ne]; exact h0
    clear hx hr hx0 h hp hkd he h0
    go_enter Tryz.func18, Tryz.ntmps18
    go_upto_region 1 with (fail)
    refine wp_gen (fun Wv => Bx Wv (w.heap.size) (24) (#[.int .i64 sl, .int .i64 g]) ∧ Below w.heap.size w Wv) ⟨((Bx.at_ (by simp))), ((Below.refl _ w).alloc (by simp <;> omega) _)⟩ ?_
    rintro wa1 ⟨g1, b⟩
    replace B := B.trans (b.mono B.size); clear b
    have c_g1 := g1.cell; have f_g1 := g1.free; have a_g1 := fun o => (g1.alloc o).cell; have d_g1 := fun o o2 => ((g1.alloc o).alloc o2).cell; have e_g1 := fun o => (g1.alloc o).free
    go_wp2_with fail
    refine (FT.out _ (H.out.below B)).mono ?_
    rintro e wa2 ⟨rfl, b⟩
    try clear c_g1 f_g1 a_g1 d_g1 e_g1
    replace g1 := g1.below b; have c_g1 := g1.cell; have f_g1 := g1.free; have a_g1 := fun o => (g1.alloc o).cell; have d_g1 := fun o o2 => ((g1.alloc o).alloc o2).cell; have e_g1 := fun o => (g1.alloc o).free; replace B := B.trans (b.mono B.size); clear b
    go_wp2
    go_ret2
    exact ⟨_, rfl, OwnE.nil _ _, B⟩
  case pos =>
    subst h0
    by_cases h3 : kd.toNat = 3
    · have hre : r = 42 := by rw [hr, giE, if_pos he.symm, ← hkd, if_pos h3]
      obtain rfl := hx0 (by rw [hre]; decide)
      subst hre
      have k3 : ((kd.toNat : Int) == 3) = true := by rw [beq_iff_eq]; omega
      clear hx hr hx0 h hp hkd he h3
      go_enter Tryz.func18, Tryz.ntmps18
      go_upto_region 1 with (fail)
      refine wp_gen (fun Wv => Bx Wv (w.heap.size) (24) (#[.int .i64 sl, .int .i64 g]) ∧ Below w.heap.size w Wv) ⟨((Bx.at_ (by simp))), ((Below.refl _ w).alloc (by simp <;> omega) _)⟩ ?_
      rintro wa1 ⟨g1, b⟩
      replace B := B.trans (b.mono B.size); clear b
      have c_g1 := g1.cell; have f_g1 := g1.free; have a_g1 := fun o => (g1.alloc o).cell; have d_g1 := fun o o2 => ((g1.alloc o).alloc o2).cell; have e_g1 := fun o => (g1.alloc o).free
      go_wp2_with fail
      refine (FT.out _ (H.out.below B)).mono ?_
      rintro e wa2 ⟨rfl, b⟩
      try clear c_g1 f_g1 a_g1 d_g1 e_g1
      replace g1 := g1.below b; have c_g1 := g1.cell; have f_g1 := g1.free; have a_g1 := fun o => (g1.alloc o).cell; have d_g1 := fun o o2 => ((g1.alloc o).alloc o2).cell; have e_g1 := fun o => (g1.alloc o).free; replace B := B.trans (b.mono B.size); clear b
      go_wp2
      go_ret2
      exact ⟨_, rfl, OwnE.nil _ _, B⟩
    · have hre : r = 0 := by rw [hr, giE, if_pos he.symm, ← hkd, if_neg h3]
      have k3 : ((kd.toNat : Int) == 3) = false := by rw [beq_eq_false_iff_ne]; omega
      have hE : E = [(p, setV kd x)] := by rw [hx, siL, if_pos (by rw [← hr]; exact hre), ← hp, ← hkd]
      subst hre; subst hE
      by_cases h2 : kd.toNat = 2
      · have k2 : ((kd.toNat : Int) == 2) = true := by rw [beq_iff_eq]; omega
        have HV := Lib.hid (setV_f (x := x) h2)
        have hxl := toNat_lt x
        have w1 := and_int (a := (x.toNat : Int) / 4503599627370496) 11 (by omega) (by omega) 2047 (by decide) (by omega)
        rw [show ((2 ^ 11 : Nat) : Int) = 2048 from rfl] at w1
        have hwr : IntKind.u64.wrap ((x.toNat : Int) * 4096) = (x.toNat : Int) * 4096 % 18446744073709551616 := rfl
        obtain ⟨q1, hq1⟩ : ∃ q, q = ((x.toNat : Int) / 4503599627370496 % 2048 == 2047) := ⟨_, rfl⟩
        obtain ⟨q2, hq2⟩ : ∃ q, q = ((x.toNat : Int) * 4096 % 18446744073709551616 != 0) := ⟨_, rfl⟩
        have hfi : (q1 = true ∧ q2 = true ∧ x.toNat ≠ 9221120237041090561) ↔ ¬ FloatOk x := by
          rw [← float_iff19 x, hq1, hq2, beq_iff_eq, bne_iff_ne]
        have HFI := Lib.hid hfi
        have q1e := hq1.symm; have q2e := hq2.symm
        clear hx hr hx0 h hp hkd he h3 h2 hq1 hq2 hfi
        cases q1 <;> cases q2
        all_goals
          go_enter Tryz.func18, Tryz.ntmps18
          go_upto_region 1 with (fail)
          refine wp_gen (fun Wv => Bx Wv (w.heap.size) (24) (#[.int .i64 sl, .int .i64 g]) ∧ Below w.heap.size w Wv) ⟨((Bx.at_ (by simp))), ((Below.refl _ w).alloc (by simp <;> omega) _)⟩ ?_
          rintro wa1 ⟨g1, b⟩
          replace B := B.trans (b.mono B.size); clear b
          have c_g1 := g1.cell; have f_g1 := g1.free; have a_g1 := fun o => (g1.alloc o).cell; have d_g1 := fun o o2 => ((g1.alloc o).alloc o2).cell; have e_g1 := fun o => (g1.alloc o).free
          go_wp2_with fail
          refine (FT.out _ (H.out.below B)).mono ?_
          rintro e wa2 ⟨rfl, b⟩
          try clear c_g1 f_g1 a_g1 d_g1 e_g1
          replace g1 := g1.below b; have c_g1 := g1.cell; have f_g1 := g1.free; have a_g1 := fun o => (g1.alloc o).cell; have d_g1 := fun o o2 => ((g1.alloc o).alloc o2).cell; have e_g1 := fun o => (g1.alloc o).free; replace B := B.trans (b.mono B.size); clear b
          go_wp2
          go_ret2
          refine ⟨_, rfl, ?_, B.alloc B.size _⟩
          first
            | (rw [HV.out, if_pos (Decidable.not_not.1 (fun hn => by have := HFI.out.2 hn; simp at this))]; exact ent_own B.size)
            | (have e9 : setV kd x = no := by
                rw [HV.out]
                by_cases hf : FloatOk x
                · rw [if_pos hf]
                  apply UInt64.toNat.inj
                  refine Decidable.not_not.1 (fun hn => HFI.out.1 ⟨by first | rfl | trivial, by first | rfl | trivial, hn⟩ hf)
                · rw [if_neg hf]
               rw [e9]; exact ent_own (x := no) B.size)
      · have k2 : ((kd.toNat : Int) == 2) = false := by rw [beq_eq_false_iff_ne]; omega
        have HV := Lib.hid (setV_o (x := x) h2)
        clear hx hr hx0 h hp hkd he h3 h2
        go_enter Tryz.func18, Tryz.ntmps18
        go_upto_region 1 with (fail)
        refine wp_gen (fun Wv => Bx Wv (w.heap.size) (24) (#[.int .i64 sl, .int .i64 g]) ∧ Below w.heap.size w Wv) ⟨((Bx.at_ (by simp))), ((Below.refl _ w).alloc (by simp <;> omega) _)⟩ ?_
        rintro wa1 ⟨g1, b⟩
        replace B := B.trans (b.mono B.size); clear b
        have c_g1 := g1.cell; have f_g1 := g1.free; have a_g1 := fun o => (g1.alloc o).cell; have d_g1 := fun o o2 => ((g1.alloc o).alloc o2).cell; have e_g1 := fun o => (g1.alloc o).free
        go_wp2_with fail
        refine (FT.out _ (H.out.below B)).mono ?_
        rintro e wa2 ⟨rfl, b⟩
        try clear c_g1 f_g1 a_g1 d_g1 e_g1
        replace g1 := g1.below b; have c_g1 := g1.cell; have f_g1 := g1.free; have a_g1 := fun o => (g1.alloc o).cell; have d_g1 := fun o o2 => ((g1.alloc o).alloc o2).cell; have e_g1 := fun o => (g1.alloc o).free; replace B := B.trans (b.mono B.size); clear b
        go_wp2
        go_ret2
        refine ⟨_, rfl, ?_, B.alloc B.size _⟩
        rw [HV.out]
        exact ent_own B.size
end Go.Proofs.YtbfmdbeeiicabaaGreat
namespace Go.Proofs.YtbfmdbeeiicabaaGreat
open Go.RowKit L01 L02 L05 L06 L07 L13 L14 L15 L18 L19 L20
set_option maxRecDepth 100000 in
set_option maxHeartbeats 2000000 in
theorem GetR24_any (v : Value) (l : List UInt64) (sl g n : Int) (x : UInt64) (r : Int) (hx : x = giV l sl g n) (hr : r = giE l sl g n) (w : World) (h : Words w v l) :
    Calls Tryz.prog 17 #[v, .agg #[.int .i64 sl, .int .i64 g], .int .i64 n] w fun e w' => e = .returned (.tuple #[.int .u64 x.toNat, .int .i64 r]) ∧ Below w.heap.size w w' := by
  have B : Below w.heap.size w w := Below.refl _ _
  have H := Lib.hid h
  obtain ⟨p, hp⟩ : ∃ p, p = kiAt l sl g n := ⟨_, rfl⟩
  obtain ⟨kd, hkd⟩ : ∃ k, k = kiK l sl g n := ⟨_, rfl⟩
  obtain ⟨e0, he⟩ : ∃ e, e = kiErr l sl g n := ⟨_, rfl⟩
  have FT := Lib.hid (fun w h => Kind24_any v l sl g n p kd e0 hp hkd he w h)
  have hx0 : r ≠ 0 → x = 0 := fun h0 => by rw [hx, giV, if_neg (by rw [← hr]; exact h0)]
  by_cases h0 : e0 = 0
  case neg =>
    have hre : r = e0 := by rw [hr, giE, ← he, if_neg h0]
    obtain rfl := hx0 (by rw [hre]; exact h0)
    subst hre
    have n1 : (r != 0) = true := by rw [bne_iff_ne]; exact h0
    clear hx hr hx0 h hp hkd he h0
    go_enter Tryz.func17, Tryz.ntmps17
    go_upto_region 1 with (fail)
    refine wp_gen (fun Wv => Bx Wv (w.heap.size) (24) (#[.int .i64 sl, .int .i64 g]) ∧ Below w.heap.size w Wv) ⟨((Bx.at_ (by simp))), ((Below.refl _ w).alloc (by simp <;> omega) _)⟩ ?_
    rintro wa1 ⟨g1, b⟩
    replace B := B.trans (b.mono B.size); clear b
    have c_g1 := g1.cell; have f_g1 := g1.free; have a_g1 := fun o => (g1.alloc o).cell; have d_g1 := fun o o2 => ((g1.alloc o).alloc o2).cell; have e_g1 := fun o => (g1.alloc o).free
    go_wp2_with fail
    refine (FT.out _ (H.out.below B)).mono ?_
    rintro e wa2 ⟨rfl, b⟩
    try clear c_g1 f_g1 a_g1 d_g1 e_g1
    replace g1 := g1.below b; have c_g1 := g1.cell; have f_g1 := g1.free; have a_g1 := fun o => (g1.alloc o).cell; have d_g1 := fun o o2 => ((g1.alloc o).alloc o2).cell; have e_g1 := fun o => (g1.alloc o).free; replace B := B.trans (b.mono B.size); clear b
    go_wp2
    go_ret2
    exact ⟨rfl, B⟩
  case pos =>
    subst h0
    by_cases h3 : kd.toNat = 3
    · have hre : r = 42 := by rw [hr, giE, if_pos he.symm, ← hkd, if_pos h3]
      obtain rfl := hx0 (by rw [hre]; decide)
      subst hre
      have k3 : ((kd.toNat : Int) == 3) = true := by rw [beq_iff_eq]; omega
      clear hx hr hx0 h hp hkd he h3
      go_enter Tryz.func17, Tryz.ntmps17
      go_upto_region 1 with (fail)
      refine wp_gen (fun Wv => Bx Wv (w.heap.size) (24) (#[.int .i64 sl, .int .i64 g]) ∧ Below w.heap.size w Wv) ⟨((Bx.at_ (by simp))), ((Below.refl _ w).alloc (by simp <;> omega) _)⟩ ?_
      rintro wa1 ⟨g1, b⟩
      replace B := B.trans (b.mono B.size); clear b
      have c_g1 := g1.cell; have f_g1 := g1.free; have a_g1 := fun o => (g1.alloc o).cell; have d_g1 := fun o o2 => ((g1.alloc o).alloc o2).cell; have e_g1 := fun o => (g1.alloc o).free
      go_wp2_with fail
      refine (FT.out _ (H.out.below B)).mono ?_
      rintro e wa2 ⟨rfl, b⟩
      try clear c_g1 f_g1 a_g1 d_g1 e_g1
      replace g1 := g1.below b; have c_g1 := g1.cell; have f_g1 := g1.free; have a_g1 := fun o => (g1.alloc o).cell; have d_g1 := fun o o2 => ((g1.alloc o).alloc o2).cell; have e_g1 := fun o => (g1.alloc o).free; replace B := B.trans (b.mono B.size); clear b
      go_wp2
      go_ret2
      exact ⟨rfl, B⟩
    · have hre : r = 0 := by rw [hr, giE, if_pos he.symm, ← hkd, if_neg h3]
      have k3 : ((kd.toNat : Int) == 3) = false := by rw [beq_eq_false_iff_ne]; omega
      obtain ⟨k, a, nn, q, i, b, t, kd', x', rfl, rfl, fd⟩ := Fd.of he.symm
      have hxx : x = x' := by rw [hx, giV, if_pos (by rw [← hr]; exact hre), fd.hW]
      have hpp : p = (a : Int) + 2 + (i : Int) := by rw [hp, fd.hAt]; omega
      have HX := Lib.hid fd.hx
      subst hre; subst hxx; subst hpp
      clear hx hr hx0 h hp hkd he h3 fd
      go_enter Tryz.func17, Tryz.ntmps17
      go_upto_region 1 with (fail)
      refine wp_gen (fun Wv => Bx Wv (w.heap.size) (24) (#[.int .i64 k, .int .i64 g]) ∧ Below w.heap.size w Wv) ⟨((Bx.at_ (by simp))), ((Below.refl _ w).alloc (by simp <;> omega) _)⟩ ?_
      rintro wa1 ⟨g1, b⟩
      replace B := B.trans (b.mono B.size); clear b
      have c_g1 := g1.cell; have f_g1 := g1.free; have a_g1 := fun o => (g1.alloc o).cell; have d_g1 := fun o o2 => ((g1.alloc o).alloc o2).cell; have e_g1 := fun o => (g1.alloc o).free
      go_wp2_with fail
      refine (FT.out _ (H.out.below B)).mono ?_
      rintro e wa2 ⟨rfl, b⟩
      try clear c_g1 f_g1 a_g1 d_g1 e_g1
      replace g1 := g1.below b; have c_g1 := g1.cell; have f_g1 := g1.free; have a_g1 := fun o => (g1.alloc o).cell; have d_g1 := fun o o2 => ((g1.alloc o).alloc o2).cell; have e_g1 := fun o => (g1.alloc o).free; replace B := B.trans (b.mono B.size); clear b
      obtain ⟨ad, x2, ia, m0, hx2⟩ := (H.out.below B).at_ (P := Tryz.prog) Tryz.underlying22 one_u64 (k := a + 2 + i) (List.getElem?_eq_some_iff.1 HX.out).1
      obtain rfl : x2 = x := by have := hx2.out; rw [HX.out] at this; injection this with e; exact e.symm
      have ia2 : ∀ W, (Instr.indexAt 22 v (.int .i64 ((a : Int) + 2 + (i : Int)))).run Tryz.prog W = .ok (.pointer (some ad)) W := ia
      clear hx2 ia
      go_wp2
      go_ret2
      exact ⟨rfl, B⟩
set_option maxRecDepth 100000 in
set_option maxHeartbeats 2000000 in
theorem SetR24_any (v : Value) (l : List UInt64) (sl g n : Int) (x : UInt64) (E : List (Int × UInt64)) (r : Int) (hx : E = siL l sl g n x) (hr : r = giE l sl g n) (w : World) (h : Words w v l) :
    Calls Tryz.prog 19 #[v, .agg #[.int .i64 sl, .int .i64 g], .int .i64 n, .int .u64 x.toNat] w fun e w' => ∃ y, e = .returned (.tuple #[y, .int .i64 r]) ∧ OwnE w' w.heap.size y E ∧ Below w.heap.size w w' := by
  have B : Below w.heap.size w w := Below.refl _ _
  have H := Lib.hid h
  obtain ⟨p, hp⟩ : ∃ p, p = kiAt l sl g n := ⟨_, rfl⟩
  obtain ⟨kd, hkd⟩ : ∃ k, k = kiK l sl g n := ⟨_, rfl⟩
  obtain ⟨e0, he⟩ : ∃ e, e = kiErr l sl g n := ⟨_, rfl⟩
  have FT := Lib.hid (fun w h => Kind24_any v l sl g n p kd e0 hp hkd he w h)
  have hx0 : r ≠ 0 → E = [] := fun h0 => by rw [hx, siL, if_neg (by rw [← hr]; exact h0)]
  by_cases h0 : e0 = 0
  case neg =>
    have hre : r = e0 := by rw [hr, giE, ← he, if_neg h0]
    obtain rfl := hx0 (by rw [hre]; exact h0)
    subst hre
    have n1 : (r != 0) = true := by rw [bne_iff_ne]; exact h0
    clear hx hr hx0 h hp hkd he h0
    go_enter Tryz.func19, Tryz.ntmps19
    go_upto_region 1 with (fail)
    refine wp_gen (fun Wv => Bx Wv (w.heap.size) (24) (#[.int .i64 sl, .int .i64 g]) ∧ Below w.heap.size w Wv) ⟨((Bx.at_ (by simp))), ((Below.refl _ w).alloc (by simp <;> omega) _)⟩ ?_
    rintro wa1 ⟨g1, b⟩
    replace B := B.trans (b.mono B.size); clear b
    have c_g1 := g1.cell; have f_g1 := g1.free; have a_g1 := fun o => (g1.alloc o).cell; have d_g1 := fun o o2 => ((g1.alloc o).alloc o2).cell; have e_g1 := fun o => (g1.alloc o).free
    go_wp2_with fail
    refine (FT.out _ (H.out.below B)).mono ?_
    rintro e wa2 ⟨rfl, b⟩
    try clear c_g1 f_g1 a_g1 d_g1 e_g1
    replace g1 := g1.below b; have c_g1 := g1.cell; have f_g1 := g1.free; have a_g1 := fun o => (g1.alloc o).cell; have d_g1 := fun o o2 => ((g1.alloc o).alloc o2).cell; have e_g1 := fun o => (g1.alloc o).free; replace B := B.trans (b.mono B.size); clear b
    go_wp2
    go_ret2
    exact ⟨_, rfl, OwnE.nil _ _, B⟩
  case pos =>
    subst h0
    by_cases h3 : kd.toNat = 3
    · have hre : r = 42 := by rw [hr, giE, if_pos he.symm, ← hkd, if_pos h3]
      obtain rfl := hx0 (by rw [hre]; decide)
      subst hre
      have k3 : ((kd.toNat : Int) == 3) = true := by rw [beq_iff_eq]; omega
      clear hx hr hx0 h hp hkd he h3
      go_enter Tryz.func19, Tryz.ntmps19
      go_upto_region 1 with (fail)
      refine wp_gen (fun Wv => Bx Wv (w.heap.size) (24) (#[.int .i64 sl, .int .i64 g]) ∧ Below w.heap.size w Wv) ⟨((Bx.at_ (by simp))), ((Below.refl _ w).alloc (by simp <;> omega) _)⟩ ?_
      rintro wa1 ⟨g1, b⟩
      replace B := B.trans (b.mono B.size); clear b
      have c_g1 := g1.cell; have f_g1 := g1.free; have a_g1 := fun o => (g1.alloc o).cell; have d_g1 := fun o o2 => ((g1.alloc o).alloc o2).cell; have e_g1 := fun o => (g1.alloc o).free
      go_wp2_with fail
      refine (FT.out _ (H.out.below B)).mono ?_
      rintro e wa2 ⟨rfl, b⟩
      try clear c_g1 f_g1 a_g1 d_g1 e_g1
      replace g1 := g1.below b; have c_g1 := g1.cell; have f_g1 := g1.free; have a_g1 := fun o => (g1.alloc o).cell; have d_g1 := fun o o2 => ((g1.alloc o).alloc o2).cell; have e_g1 := fun o => (g1.alloc o).free; replace B := B.trans (b.mono B.size); clear b
      go_wp2
      go_ret2
      exact ⟨_, rfl, OwnE.nil _ _, B⟩
    · have hre : r = 0 := by rw [hr, giE, if_pos he.symm, ← hkd, if_neg h3]
      have k3 : ((kd.toNat : Int) == 3) = false := by rw [beq_eq_false_iff_ne]; omega
      have hE : E = [(p, setV kd x)] := by rw [hx, siL, if_pos (by rw [← hr]; exact hre), ← hp, ← hkd]
      subst hre; subst hE
      by_cases h2 : kd.toNat = 2
      · have k2 : ((kd.toNat : Int) == 2) = true := by rw [beq_iff_eq]; omega
        have HV := Lib.hid (setV_f (x := x) h2)
        obtain ⟨f, hf⟩ : ∃ f, f = decide (FloatOk x) := ⟨_, rfl⟩
        have FB := Lib.hid (fun w => floatR19_any x f hf w)
        have HF := Lib.hid hf
        clear hx hr hx0 h hp hkd he h3 h2 hf
        cases f
        all_goals
          go_enter Tryz.func19, Tryz.ntmps19
          go_upto_region 1 with (fail)
          refine wp_gen (fun Wv => Bx Wv (w.heap.size) (24) (#[.int .i64 sl, .int .i64 g]) ∧ Below w.heap.size w Wv) ⟨((Bx.at_ (by simp))), ((Below.refl _ w).alloc (by simp <;> omega) _)⟩ ?_
          rintro wa1 ⟨g1, b⟩
          replace B := B.trans (b.mono B.size); clear b
          have c_g1 := g1.cell; have f_g1 := g1.free; have a_g1 := fun o => (g1.alloc o).cell; have d_g1 := fun o o2 => ((g1.alloc o).alloc o2).cell; have e_g1 := fun o => (g1.alloc o).free
          go_wp2_with fail
          refine (FT.out _ (H.out.below B)).mono ?_
          rintro e wa2 ⟨rfl, b⟩
          try clear c_g1 f_g1 a_g1 d_g1 e_g1
          replace g1 := g1.below b; have c_g1 := g1.cell; have f_g1 := g1.free; have a_g1 := fun o => (g1.alloc o).cell; have d_g1 := fun o o2 => ((g1.alloc o).alloc o2).cell; have e_g1 := fun o => (g1.alloc o).free; replace B := B.trans (b.mono B.size); clear b
          go_wp2_with fail
          refine (FB.out _).mono ?_
          rintro e w9 ⟨rfl, rfl⟩
          go_wp2
          go_ret2
          refine ⟨_, rfl, ?_, B.alloc B.size _⟩
          first
            | (rw [HV.out, if_pos (of_decide_eq_true HF.out.symm)]; exact ent_own B.size)
            | (rw [HV.out, if_neg (of_decide_eq_false HF.out.symm)]; exact ent_own (x := no) B.size)
      · have k2 : ((kd.toNat : Int) == 2) = false := by rw [beq_eq_false_iff_ne]; omega
        have HV := Lib.hid (setV_o (x := x) h2)
        clear hx hr hx0 h hp hkd he h3 h2
        go_enter Tryz.func19, Tryz.ntmps19
        go_upto_region 1 with (fail)
        refine wp_gen (fun Wv => Bx Wv (w.heap.size) (24) (#[.int .i64 sl, .int .i64 g]) ∧ Below w.heap.size w Wv) ⟨((Bx.at_ (by simp))), ((Below.refl _ w).alloc (by simp <;> omega) _)⟩ ?_
        rintro wa1 ⟨g1, b⟩
        replace B := B.trans (b.mono B.size); clear b
        have c_g1 := g1.cell; have f_g1 := g1.free; have a_g1 := fun o => (g1.alloc o).cell; have d_g1 := fun o o2 => ((g1.alloc o).alloc o2).cell; have e_g1 := fun o => (g1.alloc o).free
        go_wp2_with fail
        refine (FT.out _ (H.out.below B)).mono ?_
        rintro e wa2 ⟨rfl, b⟩
        try clear c_g1 f_g1 a_g1 d_g1 e_g1
        replace g1 := g1.below b; have c_g1 := g1.cell; have f_g1 := g1.free; have a_g1 := fun o => (g1.alloc o).cell; have d_g1 := fun o o2 => ((g1.alloc o).alloc o2).cell; have e_g1 := fun o => (g1.alloc o).free; replace B := B.trans (b.mono B.size); clear b
        go_wp2
        go_ret2
        refine ⟨_, rfl, ?_, B.alloc B.size _⟩
        rw [HV.out]
        exact ent_own B.size
end Go.Proofs.YtbfmdbeeiicabaaGreat
namespace Go.Proofs.YtbfmdbeeiicabaaGreat
open Go Go.RowKit
section
variable {P : Program} {ops : Array Oper} {md : Region.Mode}
/-- a number of nn yields its value, whatever its world; the others as they do -/
def YieldsM (P : Program) (md : Region.Mode) (ops : Array Oper) (C : Array Bool → World → Prop) (nn : Nat → Bool) (x : Nat → Value) (i : Nat) (o : Oper) (v : Value) (a : Act) : Prop :=
  (nn i = true ∧ v = x i ∧ Region.wanted o (yielded ops a.tmps) = true) ∨ (nn i = false ∧ YieldsV P md ops C i o v a)
theorem YieldsM.of_same {C : Array Bool → World → Prop} {nn : Nat → Bool} {x : Nat → Value} {i : Nat} {o : Oper} {v : Value} {a a' : Act} (hy : YieldsM P md ops C nn x i o v a) (he : execOp a'.eval o = execOp a.eval o)
    (hw : Region.wanted o (yielded ops a'.tmps) = Region.wanted o (yielded ops a.tmps)) : YieldsM P md ops C nn x i o v a' := by
  rcases hy with ⟨h1, h2, h3⟩ | ⟨h1, h2⟩
  · exact .inl ⟨h1, h2, by rw [hw]; exact h3⟩
  · exact .inr ⟨h1, h2.of_same he hw⟩
/-- T a: what the operation k0 does at the act a -/
def qOpM (P : Program) (md : Region.Mode) (ops : Array Oper) (C : Array Bool → World → Prop) (nn : Nat → Bool) (x : Nat → Value) (T : Nat → Sem Next → Prop) (i : Nat) (K : Act → Prop) (a : Act) : Prop :=
  match ops[i]? with
  | none => False
  | some o => ∃ v, (YieldsM P md ops C nn x i o v a ∧ (nn i = true → T i (execOp a.eval o))) ∧ K (a.put o.dst v)
variable {C : Array Bool → World → Prop} {nn : Nat → Bool} {x : Nat → Value} {T : Nat → Sem Next → Prop}
theorem qOpM_mono {i : Nat} {a : Act} {K K' : Act → Prop} (h : ∀ a, K a → K' a) (hh : qOpM P md ops C nn x T i K a) : qOpM P md ops C nn x T i K' a := by
  unfold qOpM at *
  split
  · rename_i ho; simp only [ho] at hh
  · rename_i o ho
    simp only [ho] at hh
    obtain ⟨v, h1, h2⟩ := hh
    exact ⟨v, h1, h _ h2⟩
theorem qOpM_put {i j : Nat} {oi oj : Oper} {v : Value} (hj : ops[j]? = some oj) (hap : oi.apart ops oj = true)
    (hsi : ∀ cs b, oi.op ≠ .select cs b) (hsj : ∀ cs b, oj.op ≠ .select cs b) {K : Act → Prop} {a : Act}
    (hy : YieldsM P md ops C nn x i oi v a ∧ (nn i = true → T i (execOp a.eval oi))) (h : qOpM P md ops C nn x T j K (a.put oi.dst v)) :
    qOpM P md ops C nn x T j (fun a' => (YieldsM P md ops C nn x i oi v a' ∧ (nn i = true → T i (execOp a'.eval oi))) ∧ K (a'.put oi.dst v)) a := by
  obtain ⟨h1, h2, h3⟩ := Oper.apart_spec hap
  unfold qOpM at *
  simp only [hj] at *
  obtain ⟨u, ⟨hu, hu2⟩, hn⟩ := h
  refine ⟨u, ⟨hu.of_same ?_ ?_, fun e => ?_⟩, ⟨hy.1.of_same ?_ ?_, fun e => ?_⟩, ?_⟩
  · exact (execOp_put oj hsj a oi.dst v h1).symm
  · exact (wanted_put oj a oi.dst v h1).symm
  · have := hu2 e; rwa [execOp_put oj hsj a oi.dst v h1] at this
  · exact execOp_put oi hsi a oj.dst u h3
  · exact wanted_put oi a oj.dst u h3
  · have := hy.2 e; rwa [execOp_put oi hsi a oj.dst u h3]
  · rw [← Act.put_comm a v u h2]; exact hn
/-- the walk in the order of the text, number k first -/
def wpM (P : Program) (md : Region.Mode) (ops : Array Oper) (C : Array Bool → World → Prop) (nn : Nat → Bool) (x : Nat → Value) (T : Nat → Sem Next → Prop) (Q : Act → Prop) : List Oper → Nat → Act → Prop
  | [], _, a => Q a
  | o :: rest, k, a => ∃ v, (YieldsM P md ops C nn x k o v a ∧ (nn k = true → T k (execOp a.eval o))) ∧ wpM P md ops C nn x T Q rest (k + 1) (a.put o.dst v)
def uponN (P : Program) (Post : Value → World → Prop) : Result Next → Prop
  | .ok (.value u) w' => Post u w'
  | .ok (.enter f args) w' => Calls P f args w' (fun e w'' => ∃ u, e = .returned u ∧ Post u w'')
  | _ => False
theorem uponN_mono {P : Program} {Post Post' : Value → World → Prop} {r : Result Next} (h : ∀ v w, Post v w → Post' v w) (hr : uponN P Post r) : uponN P Post' r := by
  cases r with
  | ok n w' =>
    cases n <;> simp only [uponN] at hr ⊢
    case value u => exact h _ _ hr
    case enter f args => exact hr.mono fun e w'' ⟨u, he, hp⟩ => ⟨u, he, h _ _ hp⟩
  | halt y w' => simp only [uponN] at hr
end
section
variable {P : Program} {ops : Array Oper} {rest : List Oper} {o : Oper} {a : Act} {Q : Act → Prop} {F : (Nat → Bool) → World → Prop} {js : List Nat} {k : Nat} {nn : Nat → Bool} {md : Region.Mode} {x : Nat → Value} {T : Nat → Sem Next → Prop}
end
end Go.Proofs.YtbfmdbeeiicabaaGreat
namespace Go.Proofs.YtbfmdbeeiicabaaGreat
open Go Go.RowKit
section
variable {P : Program} {ops : Array Oper} {md : Region.Mode} {C : Array Bool → World → Prop} {nn : Nat → Bool} {x : Nat → Value} {T : Nat → Sem Next → Prop}
def wpAnyH (P : Program) (md : Region.Mode) (ops : Array Oper) (C : Array Bool → World → Prop) (nn : Nat → Bool) (x : Nat → Value) (T : Nat → Sem Next → Prop) (n : Nat) (L : Array Bool → Act → Prop) : Nat → Array Bool → Act → Prop
  | 0, listed, a => L listed a
  | f + 1, listed, a =>
    Region.ready md ops listed ≠ [] ∧ ∀ i ∈ Region.ready md ops listed, i < n ∧ qOpM P md ops C nn x T i (wpAnyH P md ops C nn x T n L f (listed.setIfInBounds i true)) a
theorem wpAnyH_first {n i : Nat} {oi : Oper} {v : Value} {L : Array Bool → Act → Prop} (hi : ops[i]? = some oi) (hsel : ∀ (j : Nat) (o : Oper) cs b, ops[j]? = some o → o.op ≠ .select cs b)
    (hs : Region.sinkB md ops n = true) (hc : Region.chainB md ops n = true) (hn : n < ops.size) (hin : i < n)
    (hdone : ∀ listed a, L listed a → ∀ j ∈ Region.ready md ops listed, n ≤ j) :
    ∀ (f : Nat) (listed : Array Bool) (a : Act), HeadInv md ops n listed →
      (∀ j oj, ops[j]? = some oj → j ≠ i → listed.getD j true = false → (∀ e ∈ oj.after, Region.binds md e = true → e.on ≠ i) → oi.apart ops oj = true) →
      i ∈ Region.ready md ops listed → YieldsM P md ops C nn x i oi v a ∧ (nn i = true → T i (execOp a.eval oi)) →
      wpAnyH P md ops C nn x T n L f (listed.setIfInBounds i true) (a.put oi.dst v) → wpAnyH P md ops C nn x T n L (f + 1) listed a := by
  intro f
  induction f with
  | zero =>
    intro listed a inv _ hr hy H
    have hun := (mem_ready.1 hr).1
    refine ⟨fun h => (by rw [h] at hr; cases hr), fun j hj => ?_⟩
    have hjn : j < n := by
      rcases Nat.lt_or_ge j n with h | h
      · exact h
      · exact absurd hj (tail_waits hs hc hn inv _ i rfl hin hun j h)
    refine ⟨hjn, ?_⟩
    by_cases hji : j = i
    · subst hji; unfold qOpM; simp only [hi]; exact ⟨v, hy, H⟩
    · have := hdone _ _ H j (ready_mono hj hji)
      omega
  | succ f ih =>
    intro listed a inv hfree hr hy H
    have hun := (mem_ready.1 hr).1
    refine ⟨fun h => (by rw [h] at hr; cases hr), fun j hj => ?_⟩
    have hjn : j < n := by
      rcases Nat.lt_or_ge j n with h | h
      · exact h
      · exact absurd hj (tail_waits hs hc hn inv _ i rfl hin hun j h)
    refine ⟨hjn, ?_⟩
    by_cases hji : j = i
    · subst hji; unfold qOpM; simp only [hi]; exact ⟨v, hy, H⟩
    · have h1 := (H.2 j (ready_mono hj hji)).2
      obtain ⟨hjun, oj, hoj, hall⟩ := mem_ready.1 hj
      have hnot : ∀ e ∈ oj.after, Region.binds md e = true → e.on ≠ i := fun e he hb heq => by
        have h1 := hall e he hb
        rw [heq, getD_both hun] at h1
        cases h1
      have h2 := qOpM_put hoj (hfree j oj hoj hji hjun hnot) (fun cs b => hsel i oi cs b hi) (fun cs b => hsel j oj cs b hoj) hy h1
      have hfree' : ∀ k ok, ops[k]? = some ok → k ≠ i → (listed.setIfInBounds j true).getD k true = false →
          (∀ e ∈ ok.after, Region.binds md e = true → e.on ≠ i) → oi.apart ops ok = true := fun k ok hk hki hun hno => by
        refine hfree k ok hk hki ?_ hno
        by_cases hjk : j = k
        · subst hjk; exact hjun
        · rw [getD_set_ne true hjk] at hun; exact hun
      refine qOpM_mono (fun a' h3 => ih (listed.setIfInBounds j true) a' (inv.set hj hjn) hfree' (ready_mono hr (Ne.symm hji)) h3.1 ?_) h2
      rw [Array.setIfInBounds_comm _ _ hji]
      exact h3.2
theorem wpAnyH_lex {n g : Nat} {Lq : Act → Prop} (hsel : Region.noSelect ops = true) (hs : Region.sinkB md ops n = true) (hc : Region.chainB md ops n = true) (hn : n < ops.size) :
    ∀ (l : List Oper) (k : Nat) (listed : Array Bool) (a : Act), (∀ j, j < l.length → l[j]? = ops[k + j]?) → k + l.length = n → HeadInv md ops n listed → (∀ j, j < k → listed.getD j false = true) →
    Region.lexHead md ops g l.length k listed = true → wpM P md ops C nn x T Lq l k a →
    wpAnyH P md ops C nn x T n (fun listed' a' => Region.seqB md ops g n listed' = true ∧ (∀ j, j < n → listed'.getD j false = true) ∧ Lq a') l.length listed a
  | [], k, listed, a, _, hk, _, hd, hB, h => by
    have : k = n := by simpa using hk
    subst this
    exact ⟨by simpa [Region.lexHead] using hB, hd, h⟩
  | o :: l, k, listed, a, hl, hk, inv, hd, hB, h => by
    have h0 : ops[k]? = some o := by simpa using (hl 0 (by simp)).symm
    simp only [List.length_cons, Region.lexHead, Bool.and_eq_true] at hB
    obtain ⟨⟨hr, hf⟩, hB'⟩ := hB
    have hkn : k < n := by simp only [List.length_cons] at hk; omega
    have hr' : k ∈ Region.ready md ops listed := by simpa using hr
    obtain ⟨v, hy, hK⟩ := h
    have hun := (mem_ready.1 hr').1
    exact wpAnyH_first h0 (Region.noSelect_spec hsel) hs hc hn hkn (fun listed' a' hL => seqB_ready hL.1) l.length listed a inv (Region.free_spec h0 hf) hr' hy
      (wpAnyH_lex hsel hs hc hn l (k + 1) _ _ (fun j hj => by have := hl (j + 1) (by simp; omega); simpa [Nat.add_assoc, Nat.add_comm 1 j] using this) (by simp only [List.length_cons] at hk; omega) (inv.set hr' hkn) (fun j hj => by
        by_cases hjk : j = k
        · subst hjk; exact (getD_on hun).2
        · rw [getD_set_ne false (Ne.symm hjk)]; exact hd j (by omega)) hB' hK)
theorem wpAny_of_H {G : Type} {val : G → Nat → Value} {V : G → Prop} {Ag : Array Bool → G → G → Prop} {Cg : G → Array Bool → World → Prop} {Tg : G → Nat → Sem Next → Prop} {Q' : Exit → Act → World → Prop} {n gt : Nat} {L : G → Array Bool → Act → Prop}
    (hL : ∀ g l a w, Cg g l w → L g l a → wpAny P md ops Q' gt l a w)
    (hrf : ∀ (l : Array Bool) g, Ag l g g) (htr : ∀ (l : Array Bool) g g' g'', Ag l g g' → Ag l g' g'' → Ag l g g'') (hmn : ∀ (l : Array Bool) i g g', Ag (l.setIfInBounds i true) g g' → l.getD i true = false → Ag l g g')
    (hvl : ∀ (l : Array Bool) i g g', nn i = true → l.getD i true = false → Ag (l.setIfInBounds i true) g g' → val g i = val g' i) (hag : ∀ (l : Array Bool) g g' w, Ag l g g' → Cg g l w → Cg g' l w)
    (hT : ∀ i s (l : Array Bool) w g, nn i = true → Tg g i s → V g → i ∈ Region.ready md ops l → Cg g l w → uponN P (fun v w' => ∃ g', V g' ∧ Ag l g g' ∧ v = val g' i ∧ Cg g' (l.setIfInBounds i true) w') (s.run P w)) :
    ∀ (fuel : Nat) (l : Array Bool) (a : Act) (w : World) (g0 : G), V g0 → Cg g0 l w →
    (∀ g, V g → Ag l g0 g → wpAnyH P md ops (Cg g) nn (val g) (Tg g) n (L g) fuel l a) → wpAny P md ops Q' (fuel + gt) l a w
  | 0, l, a, w, g0, hg0, hC, h => by rw [Nat.zero_add]; exact hL g0 l a w hC (h g0 hg0 (hrf _ _))
  | fuel + 1, l, a, w, g0, hg0, hC, h => by
    rw [show fuel + 1 + gt = (fuel + gt) + 1 by omega]
    refine ⟨fun h0 => absurd h0 (h g0 hg0 (hrf _ _)).1, fun i hi => ?_⟩
    have hun := (mem_ready.1 hi).1
    have h1 := ((h g0 hg0 (hrf _ _)).2 i hi).2
    unfold qOpM at h1
    unfold wpOp
    split
    · rename_i ho; simp only [ho] at h1
    · rename_i o ho
      simp only [ho] at h1
      obtain ⟨v, ⟨h2, hT0⟩, h3⟩ := h1
      have next : nn i = true → ∀ g', V g' → Ag l g0 g' → ∀ w', Cg g' (l.setIfInBounds i true) w' → wpAny P md ops Q' (fuel + gt) (l.setIfInBounds i true) (a.put o.dst (val g' i)) w' := by
        intro hn g' hg' hA w' hC'
        refine wpAny_of_H (n := n) hL hrf htr hmn hvl hag hT fuel _ _ w' g' hg' hC' fun g hg hA2 => ?_
        have h4 := ((h g hg (htr _ _ _ _ hA (hmn _ _ _ _ hA2 hun))).2 i hi).2
        unfold qOpM at h4
        simp only [ho] at h4
        obtain ⟨v', ⟨h5, _⟩, h6⟩ := h4
        rcases h5 with ⟨_, e5, _⟩ | ⟨hne, _⟩
        · rw [hvl _ _ _ _ hn hun hA2, ← e5]; exact h6
        · rw [hn] at hne; cases hne
      rcases h2 with ⟨hn, hv, hw⟩ | ⟨hn, h2⟩
      · rw [if_pos hw]
        left
        have h5 := hT i _ l w g0 hn (hT0 hn) hg0 hi hC
        unfold Oper.wp
        generalize (execOp a.eval o).run P w = r at *
        cases r with
        | ok n w' =>
          cases n <;> simp only [uponN] at h5 <;> simp only [Oper.upon]
          case value u => obtain ⟨g', e1, e2, rfl, e4⟩ := h5; exact next hn g' e1 e2 _ e4
          case enter f args =>
            refine h5.mono fun e w'' ⟨u, he, g', e1, e2, e3, e4⟩ => ?_
            subst he; subst e3
            exact next hn g' e1 e2 _ e4
        | halt y w' => simp only [uponN] at h5
      · have hval : ∀ g, V g → Ag (l.setIfInBounds i true) g0 g → wpAnyH P md ops (Cg g) nn (val g) (Tg g) n (L g) fuel (l.setIfInBounds i true) (a.put o.dst v) := by
          intro g hg hA2
          have hA := hmn _ _ _ _ hA2 hun
          have h4 := ((h g hg hA).2 i hi).2
          unfold qOpM at h4
          simp only [ho] at h4
          obtain ⟨v', ⟨h5, _⟩, h6⟩ := h4
          rcases h5 with ⟨e, _⟩ | ⟨_, h5⟩
          · rw [hn] at e; cases e
          · have hvv : v = v' := by
              rcases h2 with ⟨hw, ha⟩ | ⟨hw, rfl, _⟩
              · rcases h5 with ⟨_, hb⟩ | ⟨hw', _⟩
                · exact uponV_val (ha l w hi hC) (hb l w hi (hag _ _ _ _ hA hC))
                · rw [hw] at hw'; cases hw'
              · rcases h5 with ⟨hw', _⟩ | ⟨_, e, _⟩
                · rw [hw] at hw'; cases hw'
                · exact e.symm
            rw [hvv]; exact h6
        rcases h2 with ⟨hw, ha⟩ | ⟨hw, rfl, hv⟩
        · rw [if_pos hw]
          left
          have h5 := ha l w hi hC
          unfold Oper.wp
          generalize (execOp a.eval o).run P w = r at *
          cases r with
          | ok n w' =>
            cases n <;> simp only [uponV] at h5 <;> simp only [Oper.upon]
            case value u => obtain ⟨e1, e2⟩ := h5; rw [e1]; exact wpAny_of_H (n := n) hL hrf htr hmn hvl hag hT fuel _ _ w' g0 hg0 e2 hval
            case skip => obtain ⟨e1, e2⟩ := h5; rw [← e1]; exact wpAny_of_H (n := n) hL hrf htr hmn hvl hag hT fuel _ _ w' g0 hg0 e2 hval
          | halt y w' => simp only [uponV] at h5
        · rw [if_neg (by rw [hw]; exact Bool.false_ne_true)]
          exact wpAny_of_H (n := n) hL hrf htr hmn hvl hag hT fuel _ _ w g0 hg0 (hv l w hi hC) hval
end
/-- a world behind w, of which p holds besides -/
structure FutP (w : World) (p : World → Prop) where
  W : World
  h : Below w.heap.size w W
  hp : p W
/-- what holds at the head: no old block is changed; of the operations ns that are done, what is known of their values -/
def CH (w : World) (ns : List Nat) (dep : Nat → List Nat) (Φ : Nat → (Nat → Value) → World → Prop) (g : Nat → Value) : Array Bool → World → Prop := fun listed W =>
  Below w.heap.size w W ∧ ∀ k ∈ ns, listed.getD k false = true → Φ k g W ∧ ∀ j ∈ dep k, listed.getD j false = true
section
variable {P : Program} {ops : Array Oper} {rest : List Oper} {o : Oper} {a : Act} {Q : Act → Prop} {k : Nat} {md : Region.Mode} {T : Nat → Sem Next → Prop} {w : World} {ns : List Nat} {dep : Nat → List Nat} {Φ : Nat → (Nat → Value) → World → Prop} {g : Nat → Value}
theorem wpH_nil {C : Array Bool → World → Prop} {nn : Nat → Bool} {x : Nat → Value} (h : Q a) : wpM P md ops C nn x T Q [] k a := h
/-- an operation that only reads what was there before -/
theorem wpH_read0 (hV : isV o.op = true) (hn : (ns.contains k) = false)
    (h : wpQuiet P ops (fun W => ∃ x : Fut w, W = x.W) (fun a' => wpM P md ops (CH w ns dep Φ g) (fun i => ns.contains i) g T Q rest (k + 1) a') [o] a) : wpM P md ops (CH w ns dep Φ g) (fun i => ns.contains i) g T Q (o :: rest) k a := by
  have skip : ∀ {listed : Array Bool} {W : World}, CH w ns dep Φ g listed W → CH w ns dep Φ g (listed.setIfInBounds k true) W := fun {listed W} hW => by
    refine ⟨hW.1, fun j hj hl => ?_⟩
    have hjk : k ≠ j := fun e => by subst e; rw [List.contains_iff_mem.2 hj] at hn; cases hn
    rw [getD_set_ne false hjk] at hl
    obtain ⟨h1, h2⟩ := hW.2 j hj hl
    exact ⟨h1, fun i hi => getD_set_true (h2 i hi)⟩
  unfold wpQuiet at h
  split at h
  · rename_i hw
    obtain ⟨v, h1, h2⟩ := h
    refine ⟨v, ⟨.inr ⟨hn, .inl ⟨hw, fun listed W hl hW => ?_⟩⟩, fun e => (by have e' : ns.contains k = true := e; rw [hn] at e'; cases e')⟩, h2⟩
    have h3 := h1 W ⟨⟨W, hW.1⟩, rfl⟩
    unfold Oper.quietAt at h3
    cases hr : (execOp a.eval o).run P W with
    | ok n w' =>
      obtain ⟨u, rfl⟩ := isV_value hV hr
      rw [hr] at h3
      simp only [Oper.quietUpon] at h3
      simp only [uponV]
      obtain ⟨e1, e2⟩ := h3
      subst e1
      exact ⟨e2, skip hW⟩
    | halt x w' => rw [hr] at h3; simp only [Oper.quietUpon] at h3
  · rename_i hw
    exact ⟨undef, ⟨.inr ⟨hn, .inr ⟨by simpa using hw, rfl, fun listed W hl hW => skip hW⟩⟩, fun e => (by have e' : ns.contains k = true := e; rw [hn] at e'; cases e')⟩, h⟩
/-- an operation that makes fresh memory -/
theorem wpH_new (hn : ns.contains k = true) (hw : Region.wanted o (yielded ops a.tmps) = true) (hT : T k (execOp a.eval o)) (h : wpM P md ops (CH w ns dep Φ g) (fun i => ns.contains i) g T Q rest (k + 1) (a.put o.dst (g k))) : wpM P md ops (CH w ns dep Φ g) (fun i => ns.contains i) g T Q (o :: rest) k a :=
  ⟨g k, ⟨.inl ⟨hn, rfl, hw⟩, fun _ => hT⟩, h⟩
end
/-- what a fresh operation does: no old block is changed; its value is of the shape V, and Φ is known of it -/
def TS (P : Program) (w : World) (dep : Nat → List Nat) (V : Nat → Value → Prop) (Φ : Nat → (Nat → Value) → World → Prop) (g : Nat → Value) (k : Nat) (s : Sem Next) : Prop :=
  ∀ W, Below w.heap.size w W → (∀ j ∈ dep k, Φ j g W) → uponN P (fun v W' => V k v ∧ Below W.heap.size W W' ∧ ∀ g', g' k = v → (∀ j ∈ dep k, g' j = g j) → Φ k g' W') (s.run P W)
section
variable {P : Program} {w : World} {dep : Nat → List Nat} {V : Nat → Value → Prop} {Φ : Nat → (Nat → Value) → World → Prop} {g : Nat → Value} {k : Nat} {o : Oper} {a : Act}
/-- a call -/
theorem TS.call {f : FuncId} {xs : Array Operand} {ats : Array TypeId} {dst : Option Tmp} {ty : TypeId} {pos : String} {after : Array Edge} {gd : Option (Nat × Bool)} {av : Array Value} (hav : xs.map a.eval = av) (hf : ∀ W, (callFunc f (#[] ++ av ++ #[])).run P W = .ok (.enter f av) W)
    (h : ∀ W, Below w.heap.size w W → (∀ j ∈ dep k, Φ j g W) → Calls P f av W fun e W' => ∃ v, e = .returned v ∧ V k v ∧ Below W.heap.size W W' ∧ ∀ g', g' k = v → (∀ j ∈ dep k, g' j = g j) → Φ k g' W') :
    TS P w dep V Φ g k (execOp a.eval ⟨dst, .call ⟨.value (.func f), xs, ats⟩, ty, pos, after, gd⟩) := by
  intro W hW hd
  rw [execOp_call_go, hav, hf]
  exact h W hW hd
/-- what yields a value -/
theorem TS.val {s : Sem Next} (h : ∀ W, Below w.heap.size w W → (∀ j ∈ dep k, Φ j g W) → ∃ v W', s.run P W = .ok (.value v) W' ∧ V k v ∧ Below W.heap.size W W' ∧ ∀ g', g' k = v → (∀ j ∈ dep k, g' j = g j) → Φ k g' W') : TS P w dep V Φ g k s := by
  intro W hW hd
  obtain ⟨v, W', h1, h2⟩ := h W hW hd
  rw [h1]; exact h2
/-- a slice is made -/
theorem TS.make {t : TypeId} {l c : Operand} (ho : o.op = .makeSlice t l c) {lv cv : Value} (hl : a.eval l = lv) (hc : a.eval c = cv)
    (h : ∀ W, Below w.heap.size w W → (∀ j ∈ dep k, Φ j g W) → ∃ v W', (Instr.makeSlice t lv cv).run P W = .ok v W' ∧ V k v ∧ Below W.heap.size W W' ∧ ∀ g', g' k = v → (∀ j ∈ dep k, g' j = g j) → Φ k g' W') : TS P w dep V Φ g k (execOp a.eval o) := by
  refine TS.val fun W hW hd => ?_
  obtain ⟨v, W', h1, h2⟩ := h W hW hd
  refine ⟨v, W', ?_, h2⟩
  simp [execOp, ho, hl, hc, h1]
/-- what is run for a value -/
theorem TS.sem {s : Sem Value} (hs : execOp a.eval o = (do pure (Next.value (← s)))) (h : ∀ W, Below w.heap.size w W → (∀ j ∈ dep k, Φ j g W) → ∃ v W', s.run P W = .ok v W' ∧ V k v ∧ Below W.heap.size W W' ∧ ∀ g', g' k = v → (∀ j ∈ dep k, g' j = g j) → Φ k g' W') : TS P w dep V Φ g k (execOp a.eval o) := by
  refine TS.val fun W hW hd => ?_
  obtain ⟨v, W', h1, h2⟩ := h W hW hd
  refine ⟨v, W', ?_, h2⟩
  rw [hs, Sem.run_bind, h1]; rfl
end
/-- the region: the first n are the head; ns those that make fresh memory; dep which of these each of them waits for; Φ what is known of their values; T what they run -/
theorem wp_region_ftail {P : Program} {id : Nat} {Q : Exit → Act → World → Prop} {a : Act} {w : World} {l : List Oper} (n : Nat) (ns : List Nat) (dep : Nat → List Nat) (V : Nat → Value → Prop) (Φ : Nat → (Nat → Value) → World → Prop)
    (hm : P.follows .mixedOrders = true) (hB : Region.lexTailB .any l.toArray n = true)
    (hnj : (ns.all fun k => decide (k < n) && match l.toArray[k]? with | some o => (dep k).all (fun j => ns.contains j && o.after.any fun e => Region.binds .any e && e.on == j) | none => false) = true)
    (hst : ∀ k ∈ ns, ∀ g W W', Φ k g W → Below W.heap.size W W' → Φ k g W')
    (hdp : ∀ k ∈ ns, ∀ g g' W, (∀ j, (j = k ∨ j ∈ dep k) → g j = g' j) → Φ k g W → Φ k g' W)
    (hV0 : ∀ k ∈ ns, ∃ v, V k v)
    (h : ∀ g, (∀ k ∈ ns, V k (g k)) → wpM P .any l.toArray (CH w ns dep Φ g) (fun i => ns.contains i) g (TS P w dep V Φ g) (fun a' => ∀ W, Below w.heap.size w W → (∀ k ∈ ns, Φ k g W) → wpList P l.toArray Q (l.drop n) a' W) (l.take n) 0 a) : (Code.region id l.toArray true).wp P Q a w := by
  simp only [Region.lexTailB, Bool.and_eq_true, decide_eq_true_eq] at hB
  obtain ⟨⟨⟨⟨hsel, hn⟩, hs⟩, hc⟩, hlex⟩ := hB
  have hn' : n < l.length := by simpa using hn
  have htl : (l.take n).length = n := by simp; omega
  have hdl : (l.drop n).length = l.toArray.size - n := by simp
  have inv0 : HeadInv .any l.toArray n (Array.replicate l.toArray.size false) :=
    ⟨by simp, fun j oj _ hl => (by rw [getD_replicate_false] at hl; cases hl), fun t _ ht => getD_in (by simpa using ht) (getD_replicate_false _ _)⟩
  have H := fun g hg => wpAnyH_lex (md := .any) (g := l.toArray.size - n) hsel hs hc hn (l.take n) 0 _ a (fun j hj => by
    have hj' : j < n := by rw [htl] at hj; exact hj
    simp [hj']) (by simpa using htl) inv0 (fun j hj => by omega) (by rw [htl]; exact hlex) (h g hg)
  have un : ∀ {listed : Array Bool} {i : Nat}, listed.getD i true = false → listed.getD i false = false := fun {listed i} h1 => getD_both h1
  obtain ⟨g0, hg0⟩ : ∃ g0 : Nat → Value, ∀ k ∈ ns, V k (g0 k) := by
    have h1 : ∀ k, ∃ v, k ∈ ns → V k v := fun k => by
      by_cases hk : k ∈ ns
      · obtain ⟨v, hv⟩ := hV0 k hk; exact ⟨v, fun _ => hv⟩
      · exact ⟨undef, fun h => absurd h hk⟩
    obtain ⟨f, hf⟩ := Classical.axiomOfChoice h1
    exact ⟨f, hf⟩
  refine wp_region_any hm ?_
  have := wpAny_of_H (P := P) (md := .any) (ops := l.toArray) (Q' := Q) (gt := l.toArray.size - n) (n := n) (nn := fun i => ns.contains i) (G := Nat → Value) (val := fun g => g) (V := fun g => ∀ k ∈ ns, V k (g k))
    (Ag := fun listed g g' => ∀ k ∈ ns, listed.getD k false = true → g k = g' k) (Cg := CH w ns dep Φ) (Tg := TS P w dep V Φ)
    (L := fun g listed' a' => Region.seqB .any l.toArray (l.toArray.size - n) n listed' = true ∧ (∀ j, j < n → listed'.getD j false = true) ∧ ∀ W, Below w.heap.size w W → (∀ k ∈ ns, Φ k g W) → wpList P l.toArray Q (l.drop n) a' W)
    (fun g listed a' W hC hL => by
      obtain ⟨h1, h2, h3⟩ := hL
      have hlt : ∀ k ∈ ns, k < n := fun k hk => by
        have := List.all_eq_true.1 hnj k hk
        simp only [Bool.and_eq_true, decide_eq_true_eq] at this
        exact this.1
      have := wpAny_of_seq (md := .any) (Q' := Q) (l.drop n) n listed a' W (fun j => by simp [List.getElem?_drop]) (by rw [hdl]; exact h1) (h3 W hC.1 (fun k hk => (hC.2 k hk (h2 k (hlt k hk))).1))
      rwa [hdl] at this)
    (fun _ _ _ _ _ => rfl) (fun l g g' g'' h1 h2 k hk hl => (h1 k hk hl).trans (h2 k hk hl))
    (fun listed i g g' h1 h2 k hk hl => h1 k hk (getD_set_true hl))
    (fun listed i g g' hi h1 h2 => h2 i (List.contains_iff_mem.1 hi) (getD_on h1).2)
    (fun listed g g' W hA hC => ⟨hC.1, fun k hk hl => ⟨hdp k hk g g' W (fun j hj => by
      rcases hj with rfl | hj
      · exact hA j hk hl
      · have hdj := List.all_eq_true.1 hnj k hk
        simp only [Bool.and_eq_true] at hdj
        have h2 := (hC.2 k hk hl).2 j hj
        cases ho : l.toArray[k]? with
        | none => rw [ho] at hdj; cases hdj.2
        | some o =>
          have h3 := hdj.2
          simp only [ho] at h3
          have h4 := List.all_eq_true.1 h3 j hj
          simp only [Bool.and_eq_true] at h4
          exact hA j (List.contains_iff_mem.1 h4.1) h2) (hC.2 k hk hl).1, (hC.2 k hk hl).2⟩⟩)
    (fun i s listed W g hi hTs hg hr hC => by
      have hin : i ∈ ns := List.contains_iff_mem.1 hi
      have hun := (mem_ready.1 hr).1
      have hdj := List.all_eq_true.1 hnj i hin
      simp only [Bool.and_eq_true] at hdj
      obtain ⟨o, ho, _⟩ := (mem_ready.1 hr).2
      have h3 := hdj.2
      simp only [ho] at h3
      have hdeps : ∀ j ∈ dep i, j ∈ ns ∧ listed.getD j false = true := fun j hj => by
        have h4 := List.all_eq_true.1 h3 j hj
        simp only [Bool.and_eq_true] at h4
        exact ⟨List.contains_iff_mem.1 h4.1, ready_after ho h4.2 hr⟩
      have h5 := hTs W hC.1 (fun j hj => (hC.2 j (hdeps j hj).1 (hdeps j hj).2).1)
      refine uponN_mono (fun v W' ⟨e0, e1, e2⟩ => ?_) h5
      refine ⟨fun j => if j = i then v else g j, fun k hk => ?_, fun k hk hl => ?_, by simp, hC.1.trans (e1.mono hC.1.size), fun k hk hl => ?_⟩
      · by_cases hki : k = i
        · subst hki; simpa using e0
        · simpa [hki] using hg k hk
      · have hki : k ≠ i := fun e => by subst e; rw [un hun] at hl; cases hl
        simp [hki]
      · by_cases hki : k = i
        · subst hki
          refine ⟨e2 _ (by simp) (fun j hj => ?_), fun j hj => getD_set_true (hdeps j hj).2⟩
          have hjk : j ≠ k := fun e => by subst e; have := (hdeps j hj).2; rw [un hun] at this; cases this
          simp [hjk]
        · rw [getD_set_ne false (Ne.symm hki)] at hl
          obtain ⟨f1, f2⟩ := hC.2 k hk hl
          refine ⟨hdp k hk g _ W' (fun j hj => ?_) (hst k hk g W W' f1 e1), fun j hj => getD_set_true (f2 j hj)⟩
          have hji : j ≠ i := fun e => by
            subst e
            rcases hj with e | hj
            · exact hki e.symm
            · have := f2 j hj; rw [un hun] at this; cases this
          simp [hji])
    _ _ a (World.drew w) g0 hg0 ⟨(Below.refl _ _).drew, fun k hk hl => by rw [getD_replicate_false] at hl; cases hl⟩ (fun g hg _ => H g hg)
  rw [htl, show n + (l.toArray.size - n) = l.toArray.size by omega] at this
  exact this
/-- the same with one fresh operation, which makes one block -/
def ΦB (b k0 : Nat) (mk : Nat → Value) (t : TypeId) (cs : Array Value) (k : Nat) (g : Nat → Value) (W : World) : Prop := k = k0 → ∃ p, g k0 = mk p ∧ Bx W p t cs ∧ b ≤ p
def VB (mk : Nat → Value) (_k : Nat) (v : Value) : Prop := ∃ p, v = mk p
theorem TS.block {P : Program} {w : World} {mk : Nat → Value} {t : TypeId} {cs : Array Value} {g : Nat → Value} {k0 : Nat} {o : Oper} {a : Act} (s : Sem Value) (hs : execOp a.eval o = (do pure (Next.value (← s)))) (hr : ∀ W, s.run P W = .ok (mk W.heap.size) (W.alloc (.cells cs t))) :
    TS P w (fun _ => []) (VB mk) (ΦB w.heap.size k0 mk t cs) g k0 (execOp a.eval o) :=
  TS.sem hs fun W hW _ => ⟨_, _, hr W, ⟨_, rfl⟩, (Below.refl _ _).alloc (Nat.le_refl _) _, fun g' hg' _ _ => ⟨_, hg', Bx.new _ _ _, hW.size⟩⟩
theorem wp_region_fblock {P : Program} {id : Nat} {Q : Exit → Act → World → Prop} {a : Act} {w : World} {l : List Oper} (n k0 : Nat) (mk : Nat → Value) (t : TypeId) (cs : Array Value) (hmk : ∀ p q, mk p = mk q → p = q)
    (hm : P.follows .mixedOrders = true) (hB : Region.lexTailB .any l.toArray n = true)
    (hnj : (([k0] : List Nat).all fun k => decide (k < n) && match l.toArray[k]? with | some o => (([] : List Nat)).all (fun j => ([k0] : List Nat).contains j && o.after.any fun e => Region.binds .any e && e.on == j) | none => false) = true)
    (h : ∀ g p, g k0 = mk p → wpM P .any l.toArray (CH w [k0] (fun _ => []) (ΦB w.heap.size k0 mk t cs) g) (fun i => ([k0] : List Nat).contains i) g (TS P w (fun _ => []) (VB mk) (ΦB w.heap.size k0 mk t cs) g)
      (fun a' => ∀ W, Below w.heap.size w W → Bx W p t cs → w.heap.size ≤ p → wpList P l.toArray Q (l.drop n) a' W) (l.take n) 0 a) : (Code.region id l.toArray true).wp P Q a w := by
  refine wp_region_ftail n [k0] (fun _ => []) (VB mk) (ΦB w.heap.size k0 mk t cs) hm hB hnj ?_ ?_ ?_ ?_
  · intro k hk g W W' h hb e
    obtain ⟨p, a1, a2, a3⟩ := h e
    exact ⟨p, a1, a2.below hb, a3⟩
  · intro k hk g g' W he h e
    obtain ⟨p, a1, a2, a3⟩ := h e
    subst e
    exact ⟨p, by rw [← he k (.inl rfl)]; exact a1, a2, a3⟩
  · intro k _; exact ⟨mk 0, 0, rfl⟩
  · intro g hV
    obtain ⟨p, hp⟩ := hV k0 (by simp)
    have h1 := h g p hp
    have mono : ∀ (r : List Oper) (k : Nat) (a' : Act), wpM P .any l.toArray (CH w [k0] (fun _ => []) (ΦB w.heap.size k0 mk t cs) g) (fun i => ([k0] : List Nat).contains i) g (TS P w (fun _ => []) (VB mk) (ΦB w.heap.size k0 mk t cs) g)
        (fun a' => ∀ W, Below w.heap.size w W → Bx W p t cs → w.heap.size ≤ p → wpList P l.toArray Q (l.drop n) a' W) r k a' → wpM P .any l.toArray (CH w [k0] (fun _ => []) (ΦB w.heap.size k0 mk t cs) g) (fun i => ([k0] : List Nat).contains i) g (TS P w (fun _ => []) (VB mk) (ΦB w.heap.size k0 mk t cs) g)
        (fun a' => ∀ W, Below w.heap.size w W → (∀ k ∈ [k0], ΦB w.heap.size k0 mk t cs k g W) → wpList P l.toArray Q (l.drop n) a' W) r k a' := by
      intro r
      induction r with
      | nil =>
        intro k a' h0 W hW hΦ
        obtain ⟨q, b1, b2, b3⟩ := hΦ k0 (by simp) rfl
        obtain rfl := hmk _ _ (hp.symm.trans b1)
        exact h0 W hW b2 b3
      | cons o r ih => intro k a' h0; obtain ⟨v, h1, h2⟩ := h0; exact ⟨v, h1, ih _ _ h2⟩
    exact mono _ _ _ h1
theorem mk_sl (n p q : Nat) (h : Value.slice (some ⟨p, 0, none⟩) n n = Value.slice (some ⟨q, 0, none⟩) n n) : p = q := by
  injection h with h; injection h with h; injection h with h
end Go.Proofs.YtbfmdbeeiicabaaGreat
namespace Go.Proofs.YtbfmdbeeiicabaaGreat
open Go.RowKit L01 L02 L05 L06 L07 L13 L14 L15 L18 L19 L20
theorem ent_bx {w : World} {base p : Nat} {a : Int} {x : UInt64} (h : Bx w p 61 #[.int .i64 a, .int .u64 x.toNat]) (hb : base ≤ p) : OwnE w base (.slice (some ⟨p, 0, none⟩) 1 1) [(a, x)] :=
  ⟨rfl, .inr ⟨p, 1, #[.int .i64 a, .int .u64 x.toNat], rfl, hb, h, Nat.le_refl _, by decide, rfl, rfl⟩⟩
set_option maxRecDepth 100000 in
set_option maxHeartbeats 2000000 in
theorem SetRef24_any (v pv : Value) (l : List UInt64) (sl g n : Int) (tq : Option (Int × Int)) (E : List (Int × UInt64)) (r : Int) (hx : E = riL l sl g n tq) (hr : r = riE l sl g n tq) (w : World) (h : Words w v l) (hpt : PtrH w pv tq) :
    Calls Tryz.prog 20 #[v, .agg #[.int .i64 sl, .int .i64 g], .int .i64 n, pv] w fun e w' => ∃ y, e = .returned (.tuple #[y, .int .i64 r]) ∧ OwnE w' w.heap.size y E ∧ Below w.heap.size w w' := by
  have B : Below w.heap.size w w := Below.refl _ _
  have H := Lib.hid h
  obtain ⟨p, hp⟩ : ∃ p, p = kiAt l sl g n := ⟨_, rfl⟩
  obtain ⟨kd, hkd⟩ : ∃ k, k = kiK l sl g n := ⟨_, rfl⟩
  obtain ⟨e0, he⟩ : ∃ e, e = kiErr l sl g n := ⟨_, rfl⟩
  have FT := Lib.hid (fun w h => find24_any v l sl g n p kd e0 hp hkd he w h)
  have hx0 : r ≠ 0 → E = [] := fun h0 => by rw [hx]; unfold riL; rw [if_neg (by rw [← hr]; exact h0)]
  by_cases h0 : e0 = 0
  case neg =>
    have hre : r = e0 := by rw [hr]; unfold riE; rw [← he, if_neg h0]
    obtain rfl := hx0 (by rw [hre]; exact h0)
    subst hre
    have n1 : (r != 0) = true := by rw [bne_iff_ne]; exact h0
    clear hx hr hx0 h hp hkd he h0 hpt
    go_enter Tryz.func20, Tryz.ntmps20
    go_upto_region 1 with (fail)
    refine wp_gen (fun Wv => Bx Wv (w.heap.size) (24) (#[.int .i64 sl, .int .i64 g]) ∧ Below w.heap.size w Wv) ⟨((Bx.at_ (by simp))), ((Below.refl _ w).alloc (by simp <;> omega) _)⟩ ?_
    rintro wa1 ⟨g1, b⟩
    replace B := B.trans (b.mono B.size); clear b
    have c_g1 := g1.cell; have f_g1 := g1.free; have a_g1 := fun o => (g1.alloc o).cell; have d_g1 := fun o o2 => ((g1.alloc o).alloc o2).cell; have e_g1 := fun o => (g1.alloc o).free
    go_wp2_with fail
    refine (FT.out _ (H.out.below B)).mono ?_
    rintro e wa2 ⟨rfl, b⟩
    try clear c_g1 f_g1 a_g1 d_g1 e_g1
    replace g1 := g1.below b; have c_g1 := g1.cell; have f_g1 := g1.free; have a_g1 := fun o => (g1.alloc o).cell; have d_g1 := fun o o2 => ((g1.alloc o).alloc o2).cell; have e_g1 := fun o => (g1.alloc o).free; replace B := B.trans (b.mono B.size); clear b
    go_wp2
    go_ret2
    exact ⟨_, rfl, OwnE.nil _ _, B⟩
  case pos =>
    subst h0
    by_cases h3 : kd.toNat = 3
    case neg =>
      have hre : r = 42 := by rw [hr]; unfold riE; rw [if_pos he.symm, ← hkd, if_neg h3]
      obtain rfl := hx0 (by rw [hre]; decide)
      subst hre
      have k3 : ((kd.toNat : Int) != 3) = true := by rw [bne_iff_ne]; omega
      clear hx hr hx0 h hp hkd he h3 hpt
      go_enter Tryz.func20, Tryz.ntmps20
      go_upto_region 1 with (fail)
      refine wp_gen (fun Wv => Bx Wv (w.heap.size) (24) (#[.int .i64 sl, .int .i64 g]) ∧ Below w.heap.size w Wv) ⟨((Bx.at_ (by simp))), ((Below.refl _ w).alloc (by simp <;> omega) _)⟩ ?_
      rintro wa1 ⟨g1, b⟩
      replace B := B.trans (b.mono B.size); clear b
      have c_g1 := g1.cell; have f_g1 := g1.free; have a_g1 := fun o => (g1.alloc o).cell; have d_g1 := fun o o2 => ((g1.alloc o).alloc o2).cell; have e_g1 := fun o => (g1.alloc o).free
      go_wp2_with fail
      refine (FT.out _ (H.out.below B)).mono ?_
      rintro e wa2 ⟨rfl, b⟩
      try clear c_g1 f_g1 a_g1 d_g1 e_g1
      replace g1 := g1.below b; have c_g1 := g1.cell; have f_g1 := g1.free; have a_g1 := fun o => (g1.alloc o).cell; have d_g1 := fun o o2 => ((g1.alloc o).alloc o2).cell; have e_g1 := fun o => (g1.alloc o).free; replace B := B.trans (b.mono B.size); clear b
      go_wp2
      go_ret2
      exact ⟨_, rfl, OwnE.nil _ _, B⟩
    case pos =>
      have k3 : ((kd.toNat : Int) != 3) = false := by rw [bne_eq_false_iff_eq]; omega
      cases tq with
      | none =>
        have hre : r = 0 := by rw [hr]; unfold riE; rw [if_pos he.symm, ← hkd, if_pos h3]
        have hE : E = [(p, 0)] := by rw [hx]; unfold riL; rw [if_pos (by rw [← hr]; exact hre), ← hp]; rfl
        subst hre; subst hE
        have hpn : pv = .pointer none := hpt
        subst hpn
        clear hx hr hx0 h hp hkd he h3 hpt
        go_enter Tryz.func20, Tryz.ntmps20
        go_upto_region 1 with (fail)
        refine wp_gen (fun Wv => Bx Wv (w.heap.size) (24) (#[.int .i64 sl, .int .i64 g]) ∧ Below w.heap.size w Wv) ⟨((Bx.at_ (by simp))), ((Below.refl _ w).alloc (by simp <;> omega) _)⟩ ?_
        rintro wa1 ⟨g1, b⟩
        replace B := B.trans (b.mono B.size); clear b
        have c_g1 := g1.cell; have f_g1 := g1.free; have a_g1 := fun o => (g1.alloc o).cell; have d_g1 := fun o o2 => ((g1.alloc o).alloc o2).cell; have e_g1 := fun o => (g1.alloc o).free
        go_wp2_with fail
        refine (FT.out _ (H.out.below B)).mono ?_
        rintro e wa2 ⟨rfl, b⟩
        try clear c_g1 f_g1 a_g1 d_g1 e_g1
        replace g1 := g1.below b; have c_g1 := g1.cell; have f_g1 := g1.free; have a_g1 := fun o => (g1.alloc o).cell; have d_g1 := fun o o2 => ((g1.alloc o).alloc o2).cell; have e_g1 := fun o => (g1.alloc o).free; replace B := B.trans (b.mono B.size); clear b
        go_upto_region 7 with (fail)
        refine wp_gen (fun Wv => Bx Wv (wa2.heap.size) (61) (#[.int .i64 p, .int .u64 0]) ∧ Below wa2.heap.size wa2 Wv) ⟨((Bx.at_ (by simp))), ((Below.refl _ wa2).alloc (by simp <;> omega) _)⟩ ?_
        rintro wa3 ⟨g6, b⟩
        try clear c_g1 f_g1 a_g1 d_g1 e_g1
        replace g1 := g1.below b; have c_g1 := g1.cell; have f_g1 := g1.free; have a_g1 := fun o => (g1.alloc o).cell; have d_g1 := fun o o2 => ((g1.alloc o).alloc o2).cell; have e_g1 := fun o => (g1.alloc o).free; replace B := B.trans (b.mono B.size); clear b
        have c_g6 := g6.cell; have f_g6 := g6.free; have a_g6 := fun o => (g6.alloc o).cell; have d_g6 := fun o o2 => ((g6.alloc o).alloc o2).cell; have e_g6 := fun o => (g6.alloc o).free
        go_wp2
        go_ret2
        exact ⟨_, rfl, ent_own (x := 0) B.size, B.alloc B.size _⟩
      | some t =>
        obtain ⟨gp, rfl, gb⟩ := hpt
        obtain ⟨d, hd⟩ : ∃ d, d = resErr l t.1 t.2 := ⟨_, rfl⟩
        obtain ⟨a9, ha9⟩ : ∃ a, a = res l t.1 t.2 := ⟨_, rfl⟩
        have RT := Lib.hid (fun w h => Resolve_any v l t.1 t.2 a9 d ha9 hd w h)
        have hre : r = d := by rw [hr]; unfold riE; rw [if_pos he.symm, ← hkd, if_pos h3]; exact hd.symm
        obtain ⟨t1, t2⟩ := t
        dsimp only at gb RT ha9 hd
        by_cases hd0 : d = 0
        case neg =>
          obtain rfl := hx0 (by rw [hre]; exact hd0)
          subst hre
          have n1 : (r != 0) = true := by rw [bne_iff_ne]; exact hd0
          clear hx hr hx0 h hp hkd he h3 hd hd0 ha9
          have g5 := gb
          clear gb
          go_enter Tryz.func20, Tryz.ntmps20
          go_upto_region 1 with (fail)
          refine wp_gen (fun Wv => Bx Wv (w.heap.size) (24) (#[.int .i64 sl, .int .i64 g]) ∧ Below w.heap.size w Wv) ⟨((Bx.at_ (by simp))), ((Below.refl _ w).alloc (by simp <;> omega) _)⟩ ?_
          rintro wa1 ⟨g1, b⟩
          try clear c_g5 f_g5 a_g5 d_g5 e_g5
          replace g5 := g5.below b; have c_g5 := g5.cell; have f_g5 := g5.free; have a_g5 := fun o => (g5.alloc o).cell; have d_g5 := fun o o2 => ((g5.alloc o).alloc o2).cell; have e_g5 := fun o => (g5.alloc o).free; replace B := B.trans (b.mono B.size); clear b
          have c_g1 := g1.cell; have f_g1 := g1.free; have a_g1 := fun o => (g1.alloc o).cell; have d_g1 := fun o o2 => ((g1.alloc o).alloc o2).cell; have e_g1 := fun o => (g1.alloc o).free
          go_wp2_with fail
          refine (FT.out _ (H.out.below B)).mono ?_
          rintro e wa2 ⟨rfl, b⟩
          try clear c_g5 f_g5 a_g5 d_g5 e_g5
          replace g5 := g5.below b; have c_g5 := g5.cell; have f_g5 := g5.free; have a_g5 := fun o => (g5.alloc o).cell; have d_g5 := fun o o2 => ((g5.alloc o).alloc o2).cell; have e_g5 := fun o => (g5.alloc o).free; try clear c_g1 f_g1 a_g1 d_g1 e_g1
          replace g1 := g1.below b; have c_g1 := g1.cell; have f_g1 := g1.free; have a_g1 := fun o => (g1.alloc o).cell; have d_g1 := fun o o2 => ((g1.alloc o).alloc o2).cell; have e_g1 := fun o => (g1.alloc o).free; replace B := B.trans (b.mono B.size); clear b
          have hzz := B.size
          go_upto_region 7 with (fail)
          refine wp_gen (fun Wv => Bx Wv (wa2.heap.size) (61) (#[.int .i64 p, .int .u64 0]) ∧ Below wa2.heap.size wa2 Wv) ⟨((Bx.at_ (by simp))), ((Below.refl _ wa2).alloc (by simp <;> omega) _)⟩ ?_
          rintro wa3 ⟨g6, b⟩
          try clear c_g5 f_g5 a_g5 d_g5 e_g5
          replace g5 := g5.below b; have c_g5 := g5.cell; have f_g5 := g5.free; have a_g5 := fun o => (g5.alloc o).cell; have d_g5 := fun o o2 => ((g5.alloc o).alloc o2).cell; have e_g5 := fun o => (g5.alloc o).free; try clear c_g1 f_g1 a_g1 d_g1 e_g1
          replace g1 := g1.below b; have c_g1 := g1.cell; have f_g1 := g1.free; have a_g1 := fun o => (g1.alloc o).cell; have d_g1 := fun o o2 => ((g1.alloc o).alloc o2).cell; have e_g1 := fun o => (g1.alloc o).free; replace B := B.trans (b.mono B.size); clear b
          have c_g6 := g6.cell; have f_g6 := g6.free; have a_g6 := fun o => (g6.alloc o).cell; have d_g6 := fun o o2 => ((g6.alloc o).alloc o2).cell; have e_g6 := fun o => (g6.alloc o).free
          go_wp2_with fail
          refine (RT.out _ (H.out.below B)).mono ?_
          rintro e wa4 ⟨rfl, b⟩
          try clear c_g5 f_g5 a_g5 d_g5 e_g5
          replace g5 := g5.below b; have c_g5 := g5.cell; have f_g5 := g5.free; have a_g5 := fun o => (g5.alloc o).cell; have d_g5 := fun o o2 => ((g5.alloc o).alloc o2).cell; have e_g5 := fun o => (g5.alloc o).free; try clear c_g1 f_g1 a_g1 d_g1 e_g1
          replace g1 := g1.below b; have c_g1 := g1.cell; have f_g1 := g1.free; have a_g1 := fun o => (g1.alloc o).cell; have d_g1 := fun o o2 => ((g1.alloc o).alloc o2).cell; have e_g1 := fun o => (g1.alloc o).free; try clear c_g6 f_g6 a_g6 d_g6 e_g6
          replace g6 := g6.below b; have c_g6 := g6.cell; have f_g6 := g6.free; have a_g6 := fun o => (g6.alloc o).cell; have d_g6 := fun o o2 => ((g6.alloc o).alloc o2).cell; have e_g6 := fun o => (g6.alloc o).free; replace B := B.trans (b.mono B.size); clear b
          go_wp2
          go_ret2
          exact ⟨_, rfl, OwnE.nil _ _, B⟩
        case pos =>
          subst hd0
          subst hre
          have rt : Rt l := by obtain ⟨k, a, nn, q, i, b, t, kd', x', _, _, fd⟩ := Fd.of he.symm; exact fd.hd.rt
          have hrb : 0 ≤ a9 ∧ a9 ≤ 1000000 := by
            obtain ⟨_, k9, s9, _, _, _, hu9, _, hr9, e9⟩ := resErr_ok hd.symm
            rw [ha9, e9]
            have := hr9.2.2.2 hu9
            omega
          have hE : E = [(p, UInt64.ofNat a9.toNat)] := by rw [hx]; unfold riL; rw [if_pos hr.symm, ← hp, ha9]; rfl
          obtain ⟨x9, hx9⟩ : ∃ x, x = UInt64.ofNat a9.toNat := ⟨_, rfl⟩
          have hax : a9 = (x9.toNat : Int) := by
            rw [hx9, UInt64.toNat_ofNat_of_lt' (by show a9.toNat < 18446744073709551616; omega)]; omega
          rw [← hx9] at hE
          subst hE; subst hax
          have hw9 : IntKind.u64.wrap (x9.toNat : Int) = (x9.toNat : Int) := by show (x9.toNat : Int) % 18446744073709551616 = _; omega
          clear hx hr hx0 h hp hkd he h3 hd ha9 rt hrb hx9
          have g5 := gb
          clear gb
          go_enter Tryz.func20, Tryz.ntmps20
          go_upto_region 1 with (fail)
          refine wp_gen (fun Wv => Bx Wv (w.heap.size) (24) (#[.int .i64 sl, .int .i64 g]) ∧ Below w.heap.size w Wv) ⟨((Bx.at_ (by simp))), ((Below.refl _ w).alloc (by simp <;> omega) _)⟩ ?_
          rintro wa1 ⟨g1, b⟩
          try clear c_g5 f_g5 a_g5 d_g5 e_g5
          replace g5 := g5.below b; have c_g5 := g5.cell; have f_g5 := g5.free; have a_g5 := fun o => (g5.alloc o).cell; have d_g5 := fun o o2 => ((g5.alloc o).alloc o2).cell; have e_g5 := fun o => (g5.alloc o).free; replace B := B.trans (b.mono B.size); clear b
          have c_g1 := g1.cell; have f_g1 := g1.free; have a_g1 := fun o => (g1.alloc o).cell; have d_g1 := fun o o2 => ((g1.alloc o).alloc o2).cell; have e_g1 := fun o => (g1.alloc o).free
          go_wp2_with fail
          refine (FT.out _ (H.out.below B)).mono ?_
          rintro e wa2 ⟨rfl, b⟩
          try clear c_g5 f_g5 a_g5 d_g5 e_g5
          replace g5 := g5.below b; have c_g5 := g5.cell; have f_g5 := g5.free; have a_g5 := fun o => (g5.alloc o).cell; have d_g5 := fun o o2 => ((g5.alloc o).alloc o2).cell; have e_g5 := fun o => (g5.alloc o).free; try clear c_g1 f_g1 a_g1 d_g1 e_g1
          replace g1 := g1.below b; have c_g1 := g1.cell; have f_g1 := g1.free; have a_g1 := fun o => (g1.alloc o).cell; have d_g1 := fun o o2 => ((g1.alloc o).alloc o2).cell; have e_g1 := fun o => (g1.alloc o).free; replace B := B.trans (b.mono B.size); clear b
          have hzz := B.size
          go_upto_region 7 with (fail)
          refine wp_gen (fun Wv => Bx Wv (wa2.heap.size) (61) (#[.int .i64 p, .int .u64 0]) ∧ Below wa2.heap.size wa2 Wv) ⟨((Bx.at_ (by simp))), ((Below.refl _ wa2).alloc (by simp <;> omega) _)⟩ ?_
          rintro wa3 ⟨g6, b⟩
          try clear c_g5 f_g5 a_g5 d_g5 e_g5
          replace g5 := g5.below b; have c_g5 := g5.cell; have f_g5 := g5.free; have a_g5 := fun o => (g5.alloc o).cell; have d_g5 := fun o o2 => ((g5.alloc o).alloc o2).cell; have e_g5 := fun o => (g5.alloc o).free; try clear c_g1 f_g1 a_g1 d_g1 e_g1
          replace g1 := g1.below b; have c_g1 := g1.cell; have f_g1 := g1.free; have a_g1 := fun o => (g1.alloc o).cell; have d_g1 := fun o o2 => ((g1.alloc o).alloc o2).cell; have e_g1 := fun o => (g1.alloc o).free; replace B := B.trans (b.mono B.size); clear b
          have c_g6 := g6.cell; have f_g6 := g6.free; have a_g6 := fun o => (g6.alloc o).cell; have d_g6 := fun o o2 => ((g6.alloc o).alloc o2).cell; have e_g6 := fun o => (g6.alloc o).free
          go_wp2_with fail
          refine (RT.out _ (H.out.below B)).mono ?_
          rintro e wa4 ⟨rfl, b⟩
          try clear c_g5 f_g5 a_g5 d_g5 e_g5
          replace g5 := g5.below b; have c_g5 := g5.cell; have f_g5 := g5.free; have a_g5 := fun o => (g5.alloc o).cell; have d_g5 := fun o o2 => ((g5.alloc o).alloc o2).cell; have e_g5 := fun o => (g5.alloc o).free; try clear c_g1 f_g1 a_g1 d_g1 e_g1
          replace g1 := g1.below b; have c_g1 := g1.cell; have f_g1 := g1.free; have a_g1 := fun o => (g1.alloc o).cell; have d_g1 := fun o o2 => ((g1.alloc o).alloc o2).cell; have e_g1 := fun o => (g1.alloc o).free; try clear c_g6 f_g6 a_g6 d_g6 e_g6
          replace g6 := g6.below b; have c_g6 := g6.cell; have f_g6 := g6.free; have a_g6 := fun o => (g6.alloc o).cell; have d_g6 := fun o o2 => ((g6.alloc o).alloc o2).cell; have e_g6 := fun o => (g6.alloc o).free; replace B := B.trans (b.mono B.size); clear b
          have hp6 := g6.lt
          have hz6 : w.heap.size ≤ wa2.heap.size := hzz
          go_upto_region 12 with (fail)
          refine wp_gen (fun V => Bx V wa2.heap.size 61 #[.int .i64 p, .int .u64 x9.toNat] ∧ Below w.heap.size w V) ⟨by have := g6.set (i := 1) (.int .u64 x9.toNat); simpa using this, B.setCell (p := ⟨wa2.heap.size, 1, none⟩) hz6 _⟩ ?_
          clear g6 B c_g6 f_g6 a_g6 d_g6 e_g6 g5 c_g5 f_g5 a_g5 d_g5 e_g5 g1 c_g1 f_g1 a_g1 d_g1 e_g1
          rintro V ⟨g6, B⟩
          have c_g6 := g6.cell
          go_wp2
          go_ret2
          exact ⟨_, rfl, ent_own (x := x9) B.size, B.alloc B.size _⟩
set_option maxRecDepth 100000 in
set_option maxHeartbeats 4000000 in
theorem Root24_any (v : Value) (l : List UInt64) (sl g n : Int) (E : List (Int × UInt64)) (s1 s2 r : Int) (hx : E = oiL l sl g n) (hs1 : s1 = oiS l sl g n) (hs2 : s2 = oiG l sl g n) (hr : r = oiE l sl g n) (w : World) (h : Words w v l) :
    Calls Tryz.prog 22 #[v, .agg #[.int .i64 sl, .int .i64 g], .int .i64 n] w fun e w' => ∃ y, e = .returned (.tuple #[y, .agg #[.int .i64 s1, .int .i64 s2], .int .i64 r]) ∧ OwnE w' w.heap.size y E ∧ Below w.heap.size w w' := by
  have B : Below w.heap.size w w := Below.refl _ _
  have H := Lib.hid h
  obtain ⟨p, hp⟩ : ∃ p, p = kiAt l sl g n := ⟨_, rfl⟩
  obtain ⟨kd, hkd⟩ : ∃ k, k = kiK l sl g n := ⟨_, rfl⟩
  obtain ⟨e0, he⟩ : ∃ e, e = kiErr l sl g n := ⟨_, rfl⟩
  have FT := Lib.hid (fun w h => find24_any v l sl g n p kd e0 hp hkd he w h)
  have hx0 : r ≠ 0 → E = [] ∧ s1 = 0 ∧ s2 = 0 := fun h0 => ⟨by rw [hx, oiL, if_neg (by rw [← hr]; exact h0)], by rw [hs1, oiS, if_neg (by rw [← hr]; exact h0)], by rw [hs2, oiG, if_neg (by rw [← hr]; exact h0)]⟩
  by_cases h0 : e0 = 0
  case neg =>
    have hre : r = e0 := by rw [hr, oiE, ← he, if_neg h0]
    obtain ⟨rfl, rfl, rfl⟩ := hx0 (by rw [hre]; exact h0)
    subst hre
    have n1 : (r != 0) = true := by rw [bne_iff_ne]; exact h0
    clear hx hs1 hs2 hr hx0 h hp hkd he h0
    go_enter Tryz.func22, Tryz.ntmps22
    go_upto_region 1 with (fail)
    refine wp_gen (fun Wv => Bx Wv (w.heap.size) (24) (#[.int .i64 sl, .int .i64 g]) ∧ Bx Wv (w.heap.size + 1) (24) (#[.int .i64 0, .int .i64 0]) ∧ Below w.heap.size w Wv) ⟨(((Bx.at_ (by simp)).alloc _)), ((Bx.at_ (by simp))), (((Below.refl _ w).alloc (by simp <;> omega) _).alloc (by simp <;> omega) _)⟩ ?_
    rintro wa1 ⟨g1, g2, b⟩
    replace B := B.trans (b.mono B.size); clear b
    have c_g1 := g1.cell; have f_g1 := g1.free; have a_g1 := fun o => (g1.alloc o).cell; have d_g1 := fun o o2 => ((g1.alloc o).alloc o2).cell; have e_g1 := fun o => (g1.alloc o).free
    have c_g2 := g2.cell; have f_g2 := g2.free; have a_g2 := fun o => (g2.alloc o).cell; have d_g2 := fun o o2 => ((g2.alloc o).alloc o2).cell; have e_g2 := fun o => (g2.alloc o).free
    go_wp2_with fail
    refine (FT.out _ (H.out.below B)).mono ?_
    rintro e wa2 ⟨rfl, b⟩
    try clear c_g1 f_g1 a_g1 d_g1 e_g1
    replace g1 := g1.below b; have c_g1 := g1.cell; have f_g1 := g1.free; have a_g1 := fun o => (g1.alloc o).cell; have d_g1 := fun o o2 => ((g1.alloc o).alloc o2).cell; have e_g1 := fun o => (g1.alloc o).free; try clear c_g2 f_g2 a_g2 d_g2 e_g2
    replace g2 := g2.below b; have c_g2 := g2.cell; have f_g2 := g2.free; have a_g2 := fun o => (g2.alloc o).cell; have d_g2 := fun o o2 => ((g2.alloc o).alloc o2).cell; have e_g2 := fun o => (g2.alloc o).free; replace B := B.trans (b.mono B.size); clear b
    go_wp2
    refine bodyPost_ret (v := .tuple #[.slice none 0 0, .agg #[.int .i64 0, .int .i64 0], .int .i64 r]) (by simp [results, Tryz.results22, go_sem, c_g2, f_g2]) rfl ?_
    refine ⟨_, rfl, OwnE.nil _ _, ?_⟩
    (repeat (first | refine Below.setCell ?_ (by first | exact Nat.le_refl _ | (simp <;> omega)) _ | refine Below.alloc ?_ (by first | exact B.size | (have := B.size; simp <;> omega)) _)); exact B
  case pos =>
    subst h0
    by_cases h3 : kd.toNat = 3
    case neg =>
      have hre : r = 42 := by rw [hr, oiE, if_pos he.symm, ← hkd, if_neg h3]
      obtain ⟨rfl, rfl, rfl⟩ := hx0 (by rw [hre]; decide)
      subst hre
      have k3 : ((kd.toNat : Int) != 3) = true := by rw [bne_iff_ne]; omega
      clear hx hs1 hs2 hr hx0 h hp hkd he h3
      go_enter Tryz.func22, Tryz.ntmps22
      go_upto_region 1 with (fail)
      refine wp_gen (fun Wv => Bx Wv (w.heap.size) (24) (#[.int .i64 sl, .int .i64 g]) ∧ Bx Wv (w.heap.size + 1) (24) (#[.int .i64 0, .int .i64 0]) ∧ Below w.heap.size w Wv) ⟨(((Bx.at_ (by simp)).alloc _)), ((Bx.at_ (by simp))), (((Below.refl _ w).alloc (by simp <;> omega) _).alloc (by simp <;> omega) _)⟩ ?_
      rintro wa1 ⟨g1, g2, b⟩
      replace B := B.trans (b.mono B.size); clear b
      have c_g1 := g1.cell; have f_g1 := g1.free; have a_g1 := fun o => (g1.alloc o).cell; have d_g1 := fun o o2 => ((g1.alloc o).alloc o2).cell; have e_g1 := fun o => (g1.alloc o).free
      have c_g2 := g2.cell; have f_g2 := g2.free; have a_g2 := fun o => (g2.alloc o).cell; have d_g2 := fun o o2 => ((g2.alloc o).alloc o2).cell; have e_g2 := fun o => (g2.alloc o).free
      go_wp2_with fail
      refine (FT.out _ (H.out.below B)).mono ?_
      rintro e wa2 ⟨rfl, b⟩
      try clear c_g1 f_g1 a_g1 d_g1 e_g1
      replace g1 := g1.below b; have c_g1 := g1.cell; have f_g1 := g1.free; have a_g1 := fun o => (g1.alloc o).cell; have d_g1 := fun o o2 => ((g1.alloc o).alloc o2).cell; have e_g1 := fun o => (g1.alloc o).free; try clear c_g2 f_g2 a_g2 d_g2 e_g2
      replace g2 := g2.below b; have c_g2 := g2.cell; have f_g2 := g2.free; have a_g2 := fun o => (g2.alloc o).cell; have d_g2 := fun o o2 => ((g2.alloc o).alloc o2).cell; have e_g2 := fun o => (g2.alloc o).free; replace B := B.trans (b.mono B.size); clear b
      go_wp2
      refine bodyPost_ret (v := .tuple #[.slice none 0 0, .agg #[.int .i64 0, .int .i64 0], .int .i64 42]) (by simp [results, Tryz.results22, go_sem, c_g2, f_g2]) rfl ?_
      refine ⟨_, rfl, OwnE.nil _ _, ?_⟩
      (repeat (first | refine Below.setCell ?_ (by first | exact Nat.le_refl _ | (simp <;> omega)) _ | refine Below.alloc ?_ (by first | exact B.size | (have := B.size; simp <;> omega)) _)); exact B
    case pos =>
      have k3 : ((kd.toNat : Int) != 3) = false := by rw [bne_eq_false_iff_eq]; omega
      obtain ⟨k, a, nn, q, i, b, t, kd', x, rfl, rfl, fd⟩ := Fd.of he.symm
      have hpp : p = (a : Int) + 2 + (i : Int) := by rw [hp, fd.hAt]; omega
      have HX := Lib.hid fd.hx
      have hkk : kd = kd' := by rw [hkd, fd.hK]
      have hre : r = if x = 0 then 6 else L18.newErr l x.toNat := by rw [hr, oiE, if_pos he.symm, ← hkd, if_pos h3, fd.hW]
      subst hpp
      by_cases hx00 : x = 0
      · have hre6 : r = 6 := by rw [hre, if_pos hx00]
        obtain ⟨rfl, rfl, rfl⟩ := hx0 (by rw [hre6]; decide)
        subst hre6
        have z0 : ((x.toNat : Int) == 0) = true := by rw [hx00]; rfl
        clear hx hs1 hs2 hr hx0 h hp hkd he h3 fd hre hx00 hkk
        go_enter Tryz.func22, Tryz.ntmps22
        go_upto_region 1 with (fail)
        refine wp_gen (fun Wv => Bx Wv (w.heap.size) (24) (#[.int .i64 k, .int .i64 g]) ∧ Bx Wv (w.heap.size + 1) (24) (#[.int .i64 0, .int .i64 0]) ∧ Below w.heap.size w Wv) ⟨(((Bx.at_ (by simp)).alloc _)), ((Bx.at_ (by simp))), (((Below.refl _ w).alloc (by simp <;> omega) _).alloc (by simp <;> omega) _)⟩ ?_
        rintro wa1 ⟨g1, g2, b⟩
        replace B := B.trans (b.mono B.size); clear b
        have c_g1 := g1.cell; have f_g1 := g1.free; have a_g1 := fun o => (g1.alloc o).cell; have d_g1 := fun o o2 => ((g1.alloc o).alloc o2).cell; have e_g1 := fun o => (g1.alloc o).free
        have c_g2 := g2.cell; have f_g2 := g2.free; have a_g2 := fun o => (g2.alloc o).cell; have d_g2 := fun o o2 => ((g2.alloc o).alloc o2).cell; have e_g2 := fun o => (g2.alloc o).free
        go_wp2_with fail
        refine (FT.out _ (H.out.below B)).mono ?_
        rintro e wa2 ⟨rfl, b⟩
        try clear c_g1 f_g1 a_g1 d_g1 e_g1
        replace g1 := g1.below b; have c_g1 := g1.cell; have f_g1 := g1.free; have a_g1 := fun o => (g1.alloc o).cell; have d_g1 := fun o o2 => ((g1.alloc o).alloc o2).cell; have e_g1 := fun o => (g1.alloc o).free; try clear c_g2 f_g2 a_g2 d_g2 e_g2
        replace g2 := g2.below b; have c_g2 := g2.cell; have f_g2 := g2.free; have a_g2 := fun o => (g2.alloc o).cell; have d_g2 := fun o o2 => ((g2.alloc o).alloc o2).cell; have e_g2 := fun o => (g2.alloc o).free; replace B := B.trans (b.mono B.size); clear b
        obtain ⟨ad, x2, ia, m0, hx2⟩ := (H.out.below B).at_ (P := Tryz.prog) Tryz.underlying22 one_u64 (k := a + 2 + i) (List.getElem?_eq_some_iff.1 HX.out).1
        obtain rfl : x2 = x := by have := hx2.out; rw [HX.out] at this; injection this with e; exact e.symm
        have ia2 : ∀ W, (Instr.indexAt 22 v (.int .i64 ((a : Int) + 2 + (i : Int)))).run Tryz.prog W = .ok (.pointer (some ad)) W := ia
        clear hx2 ia
        go_wp2
        refine bodyPost_ret (v := .tuple #[.slice none 0 0, .agg #[.int .i64 0, .int .i64 0], .int .i64 6]) (by simp [results, Tryz.results22, go_sem, c_g2, f_g2]) rfl ?_
        refine ⟨_, rfl, OwnE.nil _ _, ?_⟩
        (repeat (first | refine Below.setCell ?_ (by first | exact Nat.le_refl _ | (simp <;> omega)) _ | refine Below.alloc ?_ (by first | exact B.size | (have := B.size; simp <;> omega)) _)); exact B
      · have z0 : ((x.toNat : Int) == 0) = false := by rw [beq_eq_false_iff_ne]; intro e; exact hx00 (UInt64.toNat.inj (by simp; omega))
        obtain ⟨hnc, hxb⟩ := new_cases fd (by rw [← hkk]; exact h3) hx00
        obtain ⟨e9, he9⟩ : ∃ e, e = L18.newErr l x.toNat := ⟨_, rfl⟩
        obtain ⟨s9, hs9⟩ : ∃ e, e = newSlot l x.toNat := ⟨_, rfl⟩
        obtain ⟨g9, hg9⟩ : ∃ e, e = newGen l x.toNat := ⟨_, rfl⟩
        obtain ⟨a9, ha9⟩ : ∃ e, e = newAt l x.toNat := ⟨_, rfl⟩
        obtain ⟨v9, hv9⟩ : ∃ e, e = newVal l x.toNat := ⟨_, rfl⟩
        have NT := Lib.hid (fun w h => New18_any v l x.toNat s9 g9 a9 v9 e9 hs9 hg9 ha9 hv9 he9 w h)
        have hre9 : r = e9 := by rw [hre, if_neg hx00, he9]
        have hw9 : IntKind.i64.wrap (x.toNat : Int) = (x.toNat : Int) := IntWalk.i64_in _ (by omega)
        rw [← he9] at hnc
        by_cases he90 : e9 = 0
        case neg =>
          have he23 : e9 = 23 := hnc.resolve_left he90
          obtain ⟨rfl, rfl, rfl⟩ := hx0 (by rw [hre9]; exact he90)
          subst hre9; subst he23
          clear hx hs1 hs2 hr hx0 h hp hkd he h3 fd hre hx00 hkk he9 hs9 hg9 ha9 hv9 hnc he90
          go_enter Tryz.func22, Tryz.ntmps22
          go_upto_region 1 with (fail)
          refine wp_gen (fun Wv => Bx Wv (w.heap.size) (24) (#[.int .i64 k, .int .i64 g]) ∧ Bx Wv (w.heap.size + 1) (24) (#[.int .i64 0, .int .i64 0]) ∧ Below w.heap.size w Wv) ⟨(((Bx.at_ (by simp)).alloc _)), ((Bx.at_ (by simp))), (((Below.refl _ w).alloc (by simp <;> omega) _).alloc (by simp <;> omega) _)⟩ ?_
          rintro wa1 ⟨g1, g2, b⟩
          replace B := B.trans (b.mono B.size); clear b
          have c_g1 := g1.cell; have f_g1 := g1.free; have a_g1 := fun o => (g1.alloc o).cell; have d_g1 := fun o o2 => ((g1.alloc o).alloc o2).cell; have e_g1 := fun o => (g1.alloc o).free
          have c_g2 := g2.cell; have f_g2 := g2.free; have a_g2 := fun o => (g2.alloc o).cell; have d_g2 := fun o o2 => ((g2.alloc o).alloc o2).cell; have e_g2 := fun o => (g2.alloc o).free
          go_wp2_with fail
          refine (FT.out _ (H.out.below B)).mono ?_
          rintro e wa2 ⟨rfl, b⟩
          try clear c_g1 f_g1 a_g1 d_g1 e_g1
          replace g1 := g1.below b; have c_g1 := g1.cell; have f_g1 := g1.free; have a_g1 := fun o => (g1.alloc o).cell; have d_g1 := fun o o2 => ((g1.alloc o).alloc o2).cell; have e_g1 := fun o => (g1.alloc o).free; try clear c_g2 f_g2 a_g2 d_g2 e_g2
          replace g2 := g2.below b; have c_g2 := g2.cell; have f_g2 := g2.free; have a_g2 := fun o => (g2.alloc o).cell; have d_g2 := fun o o2 => ((g2.alloc o).alloc o2).cell; have e_g2 := fun o => (g2.alloc o).free; replace B := B.trans (b.mono B.size); clear b
          obtain ⟨ad, x2, ia, m0, hx2⟩ := (H.out.below B).at_ (P := Tryz.prog) Tryz.underlying22 one_u64 (k := a + 2 + i) (List.getElem?_eq_some_iff.1 HX.out).1
          obtain rfl : x2 = x := by have := hx2.out; rw [HX.out] at this; injection this with e; exact e.symm
          have ia2 : ∀ W, (Instr.indexAt 22 v (.int .i64 ((a : Int) + 2 + (i : Int)))).run Tryz.prog W = .ok (.pointer (some ad)) W := ia
          clear hx2 ia
          go_wp2_with fail
          refine (NT.out _ (H.out.below B)).mono ?_
          rintro e wa3 ⟨rfl, b⟩
          try clear c_g2 f_g2 a_g2 d_g2 e_g2
          replace g2 := g2.below b; have c_g2 := g2.cell; have f_g2 := g2.free; have a_g2 := fun o => (g2.alloc o).cell; have d_g2 := fun o o2 => ((g2.alloc o).alloc o2).cell; have e_g2 := fun o => (g2.alloc o).free; replace B := B.trans (b.mono B.size); clear b
          have hp2 := g2.lt
          go_upto_region 9 with (fail)
          refine wp_gen (fun Wv => Below wa3.heap.size wa3 Wv) (((Below.refl _ wa3).alloc (by simp <;> omega) _).alloc (by simp <;> omega) _) ?_
          intro wa4 b
          try clear c_g2 f_g2 a_g2 d_g2 e_g2
          replace g2 := g2.below b; have c_g2 := g2.cell; have f_g2 := g2.free; have a_g2 := fun o => (g2.alloc o).cell; have d_g2 := fun o o2 => ((g2.alloc o).alloc o2).cell; have e_g2 := fun o => (g2.alloc o).free; replace B := B.trans (b.mono B.size); clear b
          go_wp2
          refine bodyPost_ret (v := .tuple #[.slice none 0 0, .agg #[.int .i64 0, .int .i64 0], .int .i64 23]) (by simp [results, Tryz.results22, go_sem, c_g2, f_g2]) rfl ?_
          refine ⟨_, rfl, OwnE.nil _ _, ?_⟩
          (repeat (first | refine Below.setCell ?_ (by first | exact Nat.le_refl _ | (simp <;> omega)) _ | refine Below.alloc ?_ (by first | exact B.size | (have := B.size; simp <;> omega)) _)); exact B
        case pos =>
          subst he90
          subst hre9
          have hE : E = [(a9, v9)] := by rw [hx, oiL, if_pos hr.symm, fd.hW, ha9, hv9]
          have hS : s1 = s9 := by rw [hs1, oiS, if_pos hr.symm, fd.hW, hs9]
          have hG : s2 = g9 := by rw [hs2, oiG, if_pos hr.symm, fd.hW, hg9]
          subst hE; subst hS; subst hG
          clear hx hs1 hs2 hr hx0 h hp hkd he h3 fd hre hx00 hkk he9 hs9 hg9 ha9 hv9 hnc
          go_enter Tryz.func22, Tryz.ntmps22
          go_upto_region 1 with (fail)
          refine wp_gen (fun Wv => Bx Wv (w.heap.size) (24) (#[.int .i64 k, .int .i64 g]) ∧ Bx Wv (w.heap.size + 1) (24) (#[.int .i64 0, .int .i64 0]) ∧ Below w.heap.size w Wv) ⟨(((Bx.at_ (by simp)).alloc _)), ((Bx.at_ (by simp))), (((Below.refl _ w).alloc (by simp <;> omega) _).alloc (by simp <;> omega) _)⟩ ?_
          rintro wa1 ⟨g1, g2, b⟩
          replace B := B.trans (b.mono B.size); clear b
          have c_g1 := g1.cell; have f_g1 := g1.free; have a_g1 := fun o => (g1.alloc o).cell; have d_g1 := fun o o2 => ((g1.alloc o).alloc o2).cell; have e_g1 := fun o => (g1.alloc o).free
          have c_g2 := g2.cell; have f_g2 := g2.free; have a_g2 := fun o => (g2.alloc o).cell; have d_g2 := fun o o2 => ((g2.alloc o).alloc o2).cell; have e_g2 := fun o => (g2.alloc o).free
          go_wp2_with fail
          refine (FT.out _ (H.out.below B)).mono ?_
          rintro e wa2 ⟨rfl, b⟩
          try clear c_g1 f_g1 a_g1 d_g1 e_g1
          replace g1 := g1.below b; have c_g1 := g1.cell; have f_g1 := g1.free; have a_g1 := fun o => (g1.alloc o).cell; have d_g1 := fun o o2 => ((g1.alloc o).alloc o2).cell; have e_g1 := fun o => (g1.alloc o).free; try clear c_g2 f_g2 a_g2 d_g2 e_g2
          replace g2 := g2.below b; have c_g2 := g2.cell; have f_g2 := g2.free; have a_g2 := fun o => (g2.alloc o).cell; have d_g2 := fun o o2 => ((g2.alloc o).alloc o2).cell; have e_g2 := fun o => (g2.alloc o).free; replace B := B.trans (b.mono B.size); clear b
          obtain ⟨ad, x2, ia, m0, hx2⟩ := (H.out.below B).at_ (P := Tryz.prog) Tryz.underlying22 one_u64 (k := a + 2 + i) (List.getElem?_eq_some_iff.1 HX.out).1
          obtain rfl : x2 = x := by have := hx2.out; rw [HX.out] at this; injection this with e; exact e.symm
          have ia2 : ∀ W, (Instr.indexAt 22 v (.int .i64 ((a : Int) + 2 + (i : Int)))).run Tryz.prog W = .ok (.pointer (some ad)) W := ia
          clear hx2 ia
          go_wp2_with fail
          refine (NT.out _ (H.out.below B)).mono ?_
          rintro e wa3 ⟨rfl, b⟩
          try clear c_g2 f_g2 a_g2 d_g2 e_g2
          replace g2 := g2.below b; have c_g2 := g2.cell; have f_g2 := g2.free; have a_g2 := fun o => (g2.alloc o).cell; have d_g2 := fun o o2 => ((g2.alloc o).alloc o2).cell; have e_g2 := fun o => (g2.alloc o).free; replace B := B.trans (b.mono B.size); clear b
          have hp2 := g2.lt
          go_upto_region 9 with (fail)
          refine wp_gen (fun Wv => Bx Wv (wa3.heap.size) (24) (#[.int .i64 s1, .int .i64 s2]) ∧ Bx Wv (wa3.heap.size + 1) (61) (#[.int .i64 a9, .int .u64 v9.toNat]) ∧ Below wa3.heap.size wa3 Wv) ⟨(((Bx.at_ (by simp)).alloc _)), ((Bx.at_ (by simp))), (((Below.refl _ wa3).alloc (by simp <;> omega) _).alloc (by simp <;> omega) _)⟩ ?_
          rintro wa4 ⟨g7, g8, b⟩
          try clear c_g2 f_g2 a_g2 d_g2 e_g2
          replace g2 := g2.below b; have c_g2 := g2.cell; have f_g2 := g2.free; have a_g2 := fun o => (g2.alloc o).cell; have d_g2 := fun o o2 => ((g2.alloc o).alloc o2).cell; have e_g2 := fun o => (g2.alloc o).free; replace B := B.trans (b.mono B.size); clear b
          have c_g7 := g7.cell; have f_g7 := g7.free; have a_g7 := fun o => (g7.alloc o).cell; have d_g7 := fun o o2 => ((g7.alloc o).alloc o2).cell; have e_g7 := fun o => (g7.alloc o).free
          have c_g8 := g8.cell; have f_g8 := g8.free; have a_g8 := fun o => (g8.alloc o).cell; have d_g8 := fun o o2 => ((g8.alloc o).alloc o2).cell; have e_g8 := fun o => (g8.alloc o).free
          go_upto_region 11 with (fail)
          have hb4 := B.size
          have hne2 : w.heap.size + 1 ≠ wa3.heap.size := by omega
          clear a_g2 d_g2 e_g2 c_g2 f_g2 a_g7 d_g7 e_g7 f_g7 c_g7 a_g8 d_g8 e_g8 f_g8 c_g8
          have c_g7 := fun x : Fut _ => (g7.below x.h).cell
          have c_g8 := fun x : Fut _ => (g8.below x.h).cell
          refine wp_region_fblock 4 1 (fun p => .slice (some ⟨p, 0, none⟩) 1 1) 61 (#[.int .i64 a9, .int .u64 v9.toNat]) (mk_sl 1) (by kernel_rfl) (by kernel_rfl) (by kernel_rfl) ?_
          intro gg pq eq
          simp only [List.take_succ_cons, List.take_zero, List.drop_succ_cons, List.drop_zero]
          iterate 1 (refine wpH_read0 rfl rfl ?_; go_big_quiet_step (fail); refine wpQuiet_nil ?_)
          refine wpH_new rfl rfl (TS.block (Instr.buildSlice 27 1 #[(0, .agg #[.int .i64 a9, .int .u64 v9.toNat])]) (by simp [execOp, Act.eval]) (fun W => by simp [go_sem])) ?_
          rw [eq]
          simp only [Act.put, List.setIfInBounds_toArray, List.set_cons_zero, List.set_cons_succ]
          iterate 2 (refine wpH_read0 rfl rfl ?_; go_big_quiet_step (fail); refine wpQuiet_nil ?_)
          refine wpH_nil ?_
          intro W1 bW gq hpq
          have g3 := g2.below bW
          replace B := B.trans (bW.mono hb4)
          have c_g3 := g3.cell; have f_g3 := g3.free
          have HGQ := Lib.hid (And.intro gq (And.intro g3 B))
          clear c_g7 c_g8 g2 gq B
          go_wp2
          refine bodyPost_ret (v := .tuple #[.slice (some ⟨pq, 0, none⟩) 1 1, .agg #[.int .i64 s1, .int .i64 s2], .int .i64 0]) (by simp [results, Tryz.results22, go_sem, c_g3, f_g3]) rfl ?_
          obtain ⟨gq, g3, B⟩ := HGQ.out
          refine ⟨_, rfl, own_set (own_set (ent_bx gq (by omega)) g3 (by decide)) (g3.set _) (by decide), ?_⟩
          exact (B.setCell (p := ⟨w.heap.size + 1, 0, none⟩) (by simp) _).setCell (p := ⟨w.heap.size + 1, 1, none⟩) (by simp) _
end Go.Proofs.YtbfmdbeeiicabaaGreat
namespace Go.Proofs.YtbfmdbeeiicabaaGreat
open Go.RowKit L01 L02 L05 L06 L07 L13 L14 L15 L18 L19 L20
set_option maxRecDepth 100000 in
set_option maxHeartbeats 2000000 in
theorem SetRefR24_any (v pv : Value) (l : List UInt64) (sl g n : Int) (tq : Option (Int × Int)) (E : List (Int × UInt64)) (r : Int) (hx : E = riL l sl g n tq) (hr : r = riE l sl g n tq) (w : World) (h : Words w v l) (hpt : PtrH w pv tq) :
    Calls Tryz.prog 21 #[v, .agg #[.int .i64 sl, .int .i64 g], .int .i64 n, pv] w fun e w' => ∃ y, e = .returned (.tuple #[y, .int .i64 r]) ∧ OwnE w' w.heap.size y E ∧ Below w.heap.size w w' := by
  have B : Below w.heap.size w w := Below.refl _ _
  have H := Lib.hid h
  obtain ⟨p, hp⟩ : ∃ p, p = kiAt l sl g n := ⟨_, rfl⟩
  obtain ⟨kd, hkd⟩ : ∃ k, k = kiK l sl g n := ⟨_, rfl⟩
  obtain ⟨e0, he⟩ : ∃ e, e = kiErr l sl g n := ⟨_, rfl⟩
  have FT := Lib.hid (fun w h => Kind24_any v l sl g n p kd e0 hp hkd he w h)
  have hx0 : r ≠ 0 → E = [] := fun h0 => by rw [hx]; unfold riL; rw [if_neg (by rw [← hr]; exact h0)]
  by_cases h0 : e0 = 0
  case neg =>
    have hre : r = e0 := by rw [hr]; unfold riE; rw [← he, if_neg h0]
    obtain rfl := hx0 (by rw [hre]; exact h0)
    subst hre
    have n1 : (r != 0) = true := by rw [bne_iff_ne]; exact h0
    clear hx hr hx0 h hp hkd he h0 hpt
    go_enter Tryz.func21, Tryz.ntmps21
    go_upto_region 1 with (fail)
    refine wp_gen (fun Wv => Bx Wv (w.heap.size) (24) (#[.int .i64 sl, .int .i64 g]) ∧ Below w.heap.size w Wv) ⟨((Bx.at_ (by simp))), ((Below.refl _ w).alloc (by simp <;> omega) _)⟩ ?_
    rintro wa1 ⟨g1, b⟩
    replace B := B.trans (b.mono B.size); clear b
    have c_g1 := g1.cell; have f_g1 := g1.free; have a_g1 := fun o => (g1.alloc o).cell; have d_g1 := fun o o2 => ((g1.alloc o).alloc o2).cell; have e_g1 := fun o => (g1.alloc o).free
    go_wp2_with fail
    refine (FT.out _ (H.out.below B)).mono ?_
    rintro e wa2 ⟨rfl, b⟩
    try clear c_g1 f_g1 a_g1 d_g1 e_g1
    replace g1 := g1.below b; have c_g1 := g1.cell; have f_g1 := g1.free; have a_g1 := fun o => (g1.alloc o).cell; have d_g1 := fun o o2 => ((g1.alloc o).alloc o2).cell; have e_g1 := fun o => (g1.alloc o).free; replace B := B.trans (b.mono B.size); clear b
    go_wp2
    go_ret2
    exact ⟨_, rfl, OwnE.nil _ _, B⟩
  case pos =>
    subst h0
    by_cases h3 : kd.toNat = 3
    case neg =>
      have hre : r = 42 := by rw [hr]; unfold riE; rw [if_pos he.symm, ← hkd, if_neg h3]
      obtain rfl := hx0 (by rw [hre]; decide)
      subst hre
      have k3 : ((kd.toNat : Int) != 3) = true := by rw [bne_iff_ne]; omega
      clear hx hr hx0 h hp hkd he h3 hpt
      go_enter Tryz.func21, Tryz.ntmps21
      go_upto_region 1 with (fail)
      refine wp_gen (fun Wv => Bx Wv (w.heap.size) (24) (#[.int .i64 sl, .int .i64 g]) ∧ Below w.heap.size w Wv) ⟨((Bx.at_ (by simp))), ((Below.refl _ w).alloc (by simp <;> omega) _)⟩ ?_
      rintro wa1 ⟨g1, b⟩
      replace B := B.trans (b.mono B.size); clear b
      have c_g1 := g1.cell; have f_g1 := g1.free; have a_g1 := fun o => (g1.alloc o).cell; have d_g1 := fun o o2 => ((g1.alloc o).alloc o2).cell; have e_g1 := fun o => (g1.alloc o).free
      go_wp2_with fail
      refine (FT.out _ (H.out.below B)).mono ?_
      rintro e wa2 ⟨rfl, b⟩
      try clear c_g1 f_g1 a_g1 d_g1 e_g1
      replace g1 := g1.below b; have c_g1 := g1.cell; have f_g1 := g1.free; have a_g1 := fun o => (g1.alloc o).cell; have d_g1 := fun o o2 => ((g1.alloc o).alloc o2).cell; have e_g1 := fun o => (g1.alloc o).free; replace B := B.trans (b.mono B.size); clear b
      go_wp2
      go_ret2
      exact ⟨_, rfl, OwnE.nil _ _, B⟩
    case pos =>
      have k3 : ((kd.toNat : Int) != 3) = false := by rw [bne_eq_false_iff_eq]; omega
      cases tq with
      | none =>
        have hre : r = 0 := by rw [hr]; unfold riE; rw [if_pos he.symm, ← hkd, if_pos h3]
        have hE : E = [(p, 0)] := by rw [hx]; unfold riL; rw [if_pos (by rw [← hr]; exact hre), ← hp]; rfl
        subst hre; subst hE
        have hpn : pv = .pointer none := hpt
        subst hpn
        clear hx hr hx0 h hp hkd he h3 hpt
        go_enter Tryz.func21, Tryz.ntmps21
        go_upto_region 1 with (fail)
        refine wp_gen (fun Wv => Bx Wv (w.heap.size) (24) (#[.int .i64 sl, .int .i64 g]) ∧ Below w.heap.size w Wv) ⟨((Bx.at_ (by simp))), ((Below.refl _ w).alloc (by simp <;> omega) _)⟩ ?_
        rintro wa1 ⟨g1, b⟩
        replace B := B.trans (b.mono B.size); clear b
        have c_g1 := g1.cell; have f_g1 := g1.free; have a_g1 := fun o => (g1.alloc o).cell; have d_g1 := fun o o2 => ((g1.alloc o).alloc o2).cell; have e_g1 := fun o => (g1.alloc o).free
        go_wp2_with fail
        refine (FT.out _ (H.out.below B)).mono ?_
        rintro e wa2 ⟨rfl, b⟩
        try clear c_g1 f_g1 a_g1 d_g1 e_g1
        replace g1 := g1.below b; have c_g1 := g1.cell; have f_g1 := g1.free; have a_g1 := fun o => (g1.alloc o).cell; have d_g1 := fun o o2 => ((g1.alloc o).alloc o2).cell; have e_g1 := fun o => (g1.alloc o).free; replace B := B.trans (b.mono B.size); clear b
        go_wp2
        go_ret2
        exact ⟨_, rfl, ent_own (x := 0) B.size, B.alloc B.size _⟩
      | some t =>
        obtain ⟨gp, rfl, gb⟩ := hpt
        obtain ⟨d, hd⟩ : ∃ d, d = resErr l t.1 t.2 := ⟨_, rfl⟩
        obtain ⟨a9, ha9⟩ : ∃ a, a = res l t.1 t.2 := ⟨_, rfl⟩
        have RT := Lib.hid (fun w h => ResolveR_any v l t.1 t.2 a9 d ha9 hd w h)
        have hre : r = d := by rw [hr]; unfold riE; rw [if_pos he.symm, ← hkd, if_pos h3]; exact hd.symm
        obtain ⟨t1, t2⟩ := t
        dsimp only at gb RT ha9 hd
        by_cases hd0 : d = 0
        case neg =>
          obtain rfl := hx0 (by rw [hre]; exact hd0)
          subst hre
          have n1 : (r != 0) = true := by rw [bne_iff_ne]; exact hd0
          clear hx hr hx0 h hp hkd he h3 hd hd0 ha9
          have g5 := gb
          clear gb
          go_enter Tryz.func21, Tryz.ntmps21
          go_upto_region 1 with (fail)
          refine wp_gen (fun Wv => Bx Wv (w.heap.size) (24) (#[.int .i64 sl, .int .i64 g]) ∧ Below w.heap.size w Wv) ⟨((Bx.at_ (by simp))), ((Below.refl _ w).alloc (by simp <;> omega) _)⟩ ?_
          rintro wa1 ⟨g1, b⟩
          try clear c_g5 f_g5 a_g5 d_g5 e_g5
          replace g5 := g5.below b; have c_g5 := g5.cell; have f_g5 := g5.free; have a_g5 := fun o => (g5.alloc o).cell; have d_g5 := fun o o2 => ((g5.alloc o).alloc o2).cell; have e_g5 := fun o => (g5.alloc o).free; replace B := B.trans (b.mono B.size); clear b
          have c_g1 := g1.cell; have f_g1 := g1.free; have a_g1 := fun o => (g1.alloc o).cell; have d_g1 := fun o o2 => ((g1.alloc o).alloc o2).cell; have e_g1 := fun o => (g1.alloc o).free
          go_wp2_with fail
          refine (FT.out _ (H.out.below B)).mono ?_
          rintro e wa2 ⟨rfl, b⟩
          try clear c_g5 f_g5 a_g5 d_g5 e_g5
          replace g5 := g5.below b; have c_g5 := g5.cell; have f_g5 := g5.free; have a_g5 := fun o => (g5.alloc o).cell; have d_g5 := fun o o2 => ((g5.alloc o).alloc o2).cell; have e_g5 := fun o => (g5.alloc o).free; try clear c_g1 f_g1 a_g1 d_g1 e_g1
          replace g1 := g1.below b; have c_g1 := g1.cell; have f_g1 := g1.free; have a_g1 := fun o => (g1.alloc o).cell; have d_g1 := fun o o2 => ((g1.alloc o).alloc o2).cell; have e_g1 := fun o => (g1.alloc o).free; replace B := B.trans (b.mono B.size); clear b
          go_wp2_with fail
          refine (RT.out _ (H.out.below B)).mono ?_
          rintro e wa3 ⟨rfl, b⟩
          try clear c_g5 f_g5 a_g5 d_g5 e_g5
          replace g5 := g5.below b; have c_g5 := g5.cell; have f_g5 := g5.free; have a_g5 := fun o => (g5.alloc o).cell; have d_g5 := fun o o2 => ((g5.alloc o).alloc o2).cell; have e_g5 := fun o => (g5.alloc o).free; try clear c_g1 f_g1 a_g1 d_g1 e_g1
          replace g1 := g1.below b; have c_g1 := g1.cell; have f_g1 := g1.free; have a_g1 := fun o => (g1.alloc o).cell; have d_g1 := fun o o2 => ((g1.alloc o).alloc o2).cell; have e_g1 := fun o => (g1.alloc o).free; replace B := B.trans (b.mono B.size); clear b
          go_wp2
          go_ret2
          exact ⟨_, rfl, OwnE.nil _ _, B⟩
        case pos =>
          subst hd0
          subst hre
          have rt : Rt l := by obtain ⟨k, a, nn, q, i, b, t, kd', x', _, _, fd⟩ := Fd.of he.symm; exact fd.hd.rt
          have hrb : 0 ≤ a9 ∧ a9 ≤ 1000000 := by
            obtain ⟨_, k9, s9, _, _, _, hu9, _, hr9, e9⟩ := resErr_ok hd.symm
            rw [ha9, e9]
            have := hr9.2.2.2 hu9
            omega
          have hE : E = [(p, UInt64.ofNat a9.toNat)] := by rw [hx]; unfold riL; rw [if_pos hr.symm, ← hp, ha9]; rfl
          obtain ⟨x9, hx9⟩ : ∃ x, x = UInt64.ofNat a9.toNat := ⟨_, rfl⟩
          have hax : a9 = (x9.toNat : Int) := by
            rw [hx9, UInt64.toNat_ofNat_of_lt' (by show a9.toNat < 18446744073709551616; omega)]; omega
          rw [← hx9] at hE
          subst hE; subst hax
          have hw9 : IntKind.u64.wrap (x9.toNat : Int) = (x9.toNat : Int) := by show (x9.toNat : Int) % 18446744073709551616 = _; omega
          clear hx hr hx0 h hp hkd he h3 hd ha9 rt hrb hx9
          have g5 := gb
          clear gb
          go_enter Tryz.func21, Tryz.ntmps21
          go_upto_region 1 with (fail)
          refine wp_gen (fun Wv => Bx Wv (w.heap.size) (24) (#[.int .i64 sl, .int .i64 g]) ∧ Below w.heap.size w Wv) ⟨((Bx.at_ (by simp))), ((Below.refl _ w).alloc (by simp <;> omega) _)⟩ ?_
          rintro wa1 ⟨g1, b⟩
          try clear c_g5 f_g5 a_g5 d_g5 e_g5
          replace g5 := g5.below b; have c_g5 := g5.cell; have f_g5 := g5.free; have a_g5 := fun o => (g5.alloc o).cell; have d_g5 := fun o o2 => ((g5.alloc o).alloc o2).cell; have e_g5 := fun o => (g5.alloc o).free; replace B := B.trans (b.mono B.size); clear b
          have c_g1 := g1.cell; have f_g1 := g1.free; have a_g1 := fun o => (g1.alloc o).cell; have d_g1 := fun o o2 => ((g1.alloc o).alloc o2).cell; have e_g1 := fun o => (g1.alloc o).free
          go_wp2_with fail
          refine (FT.out _ (H.out.below B)).mono ?_
          rintro e wa2 ⟨rfl, b⟩
          try clear c_g5 f_g5 a_g5 d_g5 e_g5
          replace g5 := g5.below b; have c_g5 := g5.cell; have f_g5 := g5.free; have a_g5 := fun o => (g5.alloc o).cell; have d_g5 := fun o o2 => ((g5.alloc o).alloc o2).cell; have e_g5 := fun o => (g5.alloc o).free; try clear c_g1 f_g1 a_g1 d_g1 e_g1
          replace g1 := g1.below b; have c_g1 := g1.cell; have f_g1 := g1.free; have a_g1 := fun o => (g1.alloc o).cell; have d_g1 := fun o o2 => ((g1.alloc o).alloc o2).cell; have e_g1 := fun o => (g1.alloc o).free; replace B := B.trans (b.mono B.size); clear b
          go_wp2_with fail
          refine (RT.out _ (H.out.below B)).mono ?_
          rintro e wa3 ⟨rfl, b⟩
          try clear c_g5 f_g5 a_g5 d_g5 e_g5
          replace g5 := g5.below b; have c_g5 := g5.cell; have f_g5 := g5.free; have a_g5 := fun o => (g5.alloc o).cell; have d_g5 := fun o o2 => ((g5.alloc o).alloc o2).cell; have e_g5 := fun o => (g5.alloc o).free; try clear c_g1 f_g1 a_g1 d_g1 e_g1
          replace g1 := g1.below b; have c_g1 := g1.cell; have f_g1 := g1.free; have a_g1 := fun o => (g1.alloc o).cell; have d_g1 := fun o o2 => ((g1.alloc o).alloc o2).cell; have e_g1 := fun o => (g1.alloc o).free; replace B := B.trans (b.mono B.size); clear b
          go_wp2
          go_ret2
          exact ⟨_, rfl, ent_own (x := x9) B.size, B.alloc B.size _⟩
set_option maxRecDepth 100000 in
set_option maxHeartbeats 4000000 in
theorem RootR24_any (v : Value) (l : List UInt64) (sl g n : Int) (E : List (Int × UInt64)) (s1 s2 r : Int) (hx : E = oiL l sl g n) (hs1 : s1 = oiS l sl g n) (hs2 : s2 = oiG l sl g n) (hr : r = oiE l sl g n) (w : World) (h : Words w v l) :
    Calls Tryz.prog 23 #[v, .agg #[.int .i64 sl, .int .i64 g], .int .i64 n] w fun e w' => ∃ y, e = .returned (.tuple #[y, .agg #[.int .i64 s1, .int .i64 s2], .int .i64 r]) ∧ OwnE w' w.heap.size y E ∧ Below w.heap.size w w' := by
  have B : Below w.heap.size w w := Below.refl _ _
  have H := Lib.hid h
  obtain ⟨p, hp⟩ : ∃ p, p = kiAt l sl g n := ⟨_, rfl⟩
  obtain ⟨kd, hkd⟩ : ∃ k, k = kiK l sl g n := ⟨_, rfl⟩
  obtain ⟨e0, he⟩ : ∃ e, e = kiErr l sl g n := ⟨_, rfl⟩
  have FT := Lib.hid (fun w h => Kind24_any v l sl g n p kd e0 hp hkd he w h)
  have hx0 : r ≠ 0 → E = [] ∧ s1 = 0 ∧ s2 = 0 := fun h0 => ⟨by rw [hx, oiL, if_neg (by rw [← hr]; exact h0)], by rw [hs1, oiS, if_neg (by rw [← hr]; exact h0)], by rw [hs2, oiG, if_neg (by rw [← hr]; exact h0)]⟩
  by_cases h0 : e0 = 0
  case neg =>
    have hre : r = e0 := by rw [hr, oiE, ← he, if_neg h0]
    obtain ⟨rfl, rfl, rfl⟩ := hx0 (by rw [hre]; exact h0)
    subst hre
    have n1 : (r != 0) = true := by rw [bne_iff_ne]; exact h0
    clear hx hs1 hs2 hr hx0 h hp hkd he h0
    go_enter Tryz.func23, Tryz.ntmps23
    go_upto_region 1 with (fail)
    refine wp_gen (fun Wv => Bx Wv (w.heap.size) (24) (#[.int .i64 sl, .int .i64 g]) ∧ Bx Wv (w.heap.size + 1) (24) (#[.int .i64 0, .int .i64 0]) ∧ Below w.heap.size w Wv) ⟨(((Bx.at_ (by simp)).alloc _)), ((Bx.at_ (by simp))), (((Below.refl _ w).alloc (by simp <;> omega) _).alloc (by simp <;> omega) _)⟩ ?_
    rintro wa1 ⟨g1, g2, b⟩
    replace B := B.trans (b.mono B.size); clear b
    have c_g1 := g1.cell; have f_g1 := g1.free; have a_g1 := fun o => (g1.alloc o).cell; have d_g1 := fun o o2 => ((g1.alloc o).alloc o2).cell; have e_g1 := fun o => (g1.alloc o).free
    have c_g2 := g2.cell; have f_g2 := g2.free; have a_g2 := fun o => (g2.alloc o).cell; have d_g2 := fun o o2 => ((g2.alloc o).alloc o2).cell; have e_g2 := fun o => (g2.alloc o).free
    go_wp2_with fail
    refine (FT.out _ (H.out.below B)).mono ?_
    rintro e wa2 ⟨rfl, b⟩
    try clear c_g1 f_g1 a_g1 d_g1 e_g1
    replace g1 := g1.below b; have c_g1 := g1.cell; have f_g1 := g1.free; have a_g1 := fun o => (g1.alloc o).cell; have d_g1 := fun o o2 => ((g1.alloc o).alloc o2).cell; have e_g1 := fun o => (g1.alloc o).free; try clear c_g2 f_g2 a_g2 d_g2 e_g2
    replace g2 := g2.below b; have c_g2 := g2.cell; have f_g2 := g2.free; have a_g2 := fun o => (g2.alloc o).cell; have d_g2 := fun o o2 => ((g2.alloc o).alloc o2).cell; have e_g2 := fun o => (g2.alloc o).free; replace B := B.trans (b.mono B.size); clear b
    go_wp2
    refine bodyPost_ret (v := .tuple #[.slice none 0 0, .agg #[.int .i64 0, .int .i64 0], .int .i64 r]) (by simp [results, Tryz.results23, go_sem, c_g2, f_g2]) rfl ?_
    refine ⟨_, rfl, OwnE.nil _ _, ?_⟩
    (repeat (first | refine Below.setCell ?_ (by first | exact Nat.le_refl _ | (simp <;> omega)) _ | refine Below.alloc ?_ (by first | exact B.size | (have := B.size; simp <;> omega)) _)); exact B
  case pos =>
    subst h0
    by_cases h3 : kd.toNat = 3
    case neg =>
      have hre : r = 42 := by rw [hr, oiE, if_pos he.symm, ← hkd, if_neg h3]
      obtain ⟨rfl, rfl, rfl⟩ := hx0 (by rw [hre]; decide)
      subst hre
      have k3 : ((kd.toNat : Int) != 3) = true := by rw [bne_iff_ne]; omega
      clear hx hs1 hs2 hr hx0 h hp hkd he h3
      go_enter Tryz.func23, Tryz.ntmps23
      go_upto_region 1 with (fail)
      refine wp_gen (fun Wv => Bx Wv (w.heap.size) (24) (#[.int .i64 sl, .int .i64 g]) ∧ Bx Wv (w.heap.size + 1) (24) (#[.int .i64 0, .int .i64 0]) ∧ Below w.heap.size w Wv) ⟨(((Bx.at_ (by simp)).alloc _)), ((Bx.at_ (by simp))), (((Below.refl _ w).alloc (by simp <;> omega) _).alloc (by simp <;> omega) _)⟩ ?_
      rintro wa1 ⟨g1, g2, b⟩
      replace B := B.trans (b.mono B.size); clear b
      have c_g1 := g1.cell; have f_g1 := g1.free; have a_g1 := fun o => (g1.alloc o).cell; have d_g1 := fun o o2 => ((g1.alloc o).alloc o2).cell; have e_g1 := fun o => (g1.alloc o).free
      have c_g2 := g2.cell; have f_g2 := g2.free; have a_g2 := fun o => (g2.alloc o).cell; have d_g2 := fun o o2 => ((g2.alloc o).alloc o2).cell; have e_g2 := fun o => (g2.alloc o).free
      go_wp2_with fail
      refine (FT.out _ (H.out.below B)).mono ?_
      rintro e wa2 ⟨rfl, b⟩
      try clear c_g1 f_g1 a_g1 d_g1 e_g1
      replace g1 := g1.below b; have c_g1 := g1.cell; have f_g1 := g1.free; have a_g1 := fun o => (g1.alloc o).cell; have d_g1 := fun o o2 => ((g1.alloc o).alloc o2).cell; have e_g1 := fun o => (g1.alloc o).free; try clear c_g2 f_g2 a_g2 d_g2 e_g2
      replace g2 := g2.below b; have c_g2 := g2.cell; have f_g2 := g2.free; have a_g2 := fun o => (g2.alloc o).cell; have d_g2 := fun o o2 => ((g2.alloc o).alloc o2).cell; have e_g2 := fun o => (g2.alloc o).free; replace B := B.trans (b.mono B.size); clear b
      go_wp2
      refine bodyPost_ret (v := .tuple #[.slice none 0 0, .agg #[.int .i64 0, .int .i64 0], .int .i64 42]) (by simp [results, Tryz.results23, go_sem, c_g2, f_g2]) rfl ?_
      refine ⟨_, rfl, OwnE.nil _ _, ?_⟩
      (repeat (first | refine Below.setCell ?_ (by first | exact Nat.le_refl _ | (simp <;> omega)) _ | refine Below.alloc ?_ (by first | exact B.size | (have := B.size; simp <;> omega)) _)); exact B
    case pos =>
      have k3 : ((kd.toNat : Int) != 3) = false := by rw [bne_eq_false_iff_eq]; omega
      obtain ⟨k, a, nn, q, i, b, t, kd', x, rfl, rfl, fd⟩ := Fd.of he.symm
      have hpp : p = (a : Int) + 2 + (i : Int) := by rw [hp, fd.hAt]; omega
      have HX := Lib.hid fd.hx
      have hkk : kd = kd' := by rw [hkd, fd.hK]
      have hre : r = if x = 0 then 6 else L18.newErr l x.toNat := by rw [hr, oiE, if_pos he.symm, ← hkd, if_pos h3, fd.hW]
      subst hpp
      by_cases hx00 : x = 0
      · have hre6 : r = 6 := by rw [hre, if_pos hx00]
        obtain ⟨rfl, rfl, rfl⟩ := hx0 (by rw [hre6]; decide)
        subst hre6
        have z0 : ((x.toNat : Int) == 0) = true := by rw [hx00]; rfl
        clear hx hs1 hs2 hr hx0 h hp hkd he h3 fd hre hx00 hkk
        go_enter Tryz.func23, Tryz.ntmps23
        go_upto_region 1 with (fail)
        refine wp_gen (fun Wv => Bx Wv (w.heap.size) (24) (#[.int .i64 k, .int .i64 g]) ∧ Bx Wv (w.heap.size + 1) (24) (#[.int .i64 0, .int .i64 0]) ∧ Below w.heap.size w Wv) ⟨(((Bx.at_ (by simp)).alloc _)), ((Bx.at_ (by simp))), (((Below.refl _ w).alloc (by simp <;> omega) _).alloc (by simp <;> omega) _)⟩ ?_
        rintro wa1 ⟨g1, g2, b⟩
        replace B := B.trans (b.mono B.size); clear b
        have c_g1 := g1.cell; have f_g1 := g1.free; have a_g1 := fun o => (g1.alloc o).cell; have d_g1 := fun o o2 => ((g1.alloc o).alloc o2).cell; have e_g1 := fun o => (g1.alloc o).free
        have c_g2 := g2.cell; have f_g2 := g2.free; have a_g2 := fun o => (g2.alloc o).cell; have d_g2 := fun o o2 => ((g2.alloc o).alloc o2).cell; have e_g2 := fun o => (g2.alloc o).free
        go_wp2_with fail
        refine (FT.out _ (H.out.below B)).mono ?_
        rintro e wa2 ⟨rfl, b⟩
        try clear c_g1 f_g1 a_g1 d_g1 e_g1
        replace g1 := g1.below b; have c_g1 := g1.cell; have f_g1 := g1.free; have a_g1 := fun o => (g1.alloc o).cell; have d_g1 := fun o o2 => ((g1.alloc o).alloc o2).cell; have e_g1 := fun o => (g1.alloc o).free; try clear c_g2 f_g2 a_g2 d_g2 e_g2
        replace g2 := g2.below b; have c_g2 := g2.cell; have f_g2 := g2.free; have a_g2 := fun o => (g2.alloc o).cell; have d_g2 := fun o o2 => ((g2.alloc o).alloc o2).cell; have e_g2 := fun o => (g2.alloc o).free; replace B := B.trans (b.mono B.size); clear b
        obtain ⟨ad, x2, ia, m0, hx2⟩ := (H.out.below B).at_ (P := Tryz.prog) Tryz.underlying22 one_u64 (k := a + 2 + i) (List.getElem?_eq_some_iff.1 HX.out).1
        obtain rfl : x2 = x := by have := hx2.out; rw [HX.out] at this; injection this with e; exact e.symm
        have ia2 : ∀ W, (Instr.indexAt 22 v (.int .i64 ((a : Int) + 2 + (i : Int)))).run Tryz.prog W = .ok (.pointer (some ad)) W := ia
        clear hx2 ia
        go_wp2
        refine bodyPost_ret (v := .tuple #[.slice none 0 0, .agg #[.int .i64 0, .int .i64 0], .int .i64 6]) (by simp [results, Tryz.results23, go_sem, c_g2, f_g2]) rfl ?_
        refine ⟨_, rfl, OwnE.nil _ _, ?_⟩
        (repeat (first | refine Below.setCell ?_ (by first | exact Nat.le_refl _ | (simp <;> omega)) _ | refine Below.alloc ?_ (by first | exact B.size | (have := B.size; simp <;> omega)) _)); exact B
      · have z0 : ((x.toNat : Int) == 0) = false := by rw [beq_eq_false_iff_ne]; intro e; exact hx00 (UInt64.toNat.inj (by simp; omega))
        obtain ⟨hnc, hxb⟩ := new_cases fd (by rw [← hkk]; exact h3) hx00
        obtain ⟨e9, he9⟩ : ∃ e, e = L18.newErr l x.toNat := ⟨_, rfl⟩
        obtain ⟨s9, hs9⟩ : ∃ e, e = newSlot l x.toNat := ⟨_, rfl⟩
        obtain ⟨g9, hg9⟩ : ∃ e, e = newGen l x.toNat := ⟨_, rfl⟩
        obtain ⟨a9, ha9⟩ : ∃ e, e = newAt l x.toNat := ⟨_, rfl⟩
        obtain ⟨v9, hv9⟩ : ∃ e, e = newVal l x.toNat := ⟨_, rfl⟩
        have NT := Lib.hid (fun w h => NewR18_any v l x.toNat s9 g9 a9 v9 e9 hs9 hg9 ha9 hv9 he9 w h)
        have hre9 : r = e9 := by rw [hre, if_neg hx00, he9]
        have hw9 : IntKind.i64.wrap (x.toNat : Int) = (x.toNat : Int) := IntWalk.i64_in _ (by omega)
        rw [← he9] at hnc
        by_cases he90 : e9 = 0
        case neg =>
          have he23 : e9 = 23 := hnc.resolve_left he90
          obtain ⟨rfl, rfl, rfl⟩ := hx0 (by rw [hre9]; exact he90)
          subst hre9; subst he23
          clear hx hs1 hs2 hr hx0 h hp hkd he h3 fd hre hx00 hkk he9 hs9 hg9 ha9 hv9 hnc he90
          go_enter Tryz.func23, Tryz.ntmps23
          go_upto_region 1 with (fail)
          refine wp_gen (fun Wv => Bx Wv (w.heap.size) (24) (#[.int .i64 k, .int .i64 g]) ∧ Bx Wv (w.heap.size + 1) (24) (#[.int .i64 0, .int .i64 0]) ∧ Below w.heap.size w Wv) ⟨(((Bx.at_ (by simp)).alloc _)), ((Bx.at_ (by simp))), (((Below.refl _ w).alloc (by simp <;> omega) _).alloc (by simp <;> omega) _)⟩ ?_
          rintro wa1 ⟨g1, g2, b⟩
          replace B := B.trans (b.mono B.size); clear b
          have c_g1 := g1.cell; have f_g1 := g1.free; have a_g1 := fun o => (g1.alloc o).cell; have d_g1 := fun o o2 => ((g1.alloc o).alloc o2).cell; have e_g1 := fun o => (g1.alloc o).free
          have c_g2 := g2.cell; have f_g2 := g2.free; have a_g2 := fun o => (g2.alloc o).cell; have d_g2 := fun o o2 => ((g2.alloc o).alloc o2).cell; have e_g2 := fun o => (g2.alloc o).free
          go_wp2_with fail
          refine (FT.out _ (H.out.below B)).mono ?_
          rintro e wa2 ⟨rfl, b⟩
          try clear c_g1 f_g1 a_g1 d_g1 e_g1
          replace g1 := g1.below b; have c_g1 := g1.cell; have f_g1 := g1.free; have a_g1 := fun o => (g1.alloc o).cell; have d_g1 := fun o o2 => ((g1.alloc o).alloc o2).cell; have e_g1 := fun o => (g1.alloc o).free; try clear c_g2 f_g2 a_g2 d_g2 e_g2
          replace g2 := g2.below b; have c_g2 := g2.cell; have f_g2 := g2.free; have a_g2 := fun o => (g2.alloc o).cell; have d_g2 := fun o o2 => ((g2.alloc o).alloc o2).cell; have e_g2 := fun o => (g2.alloc o).free; replace B := B.trans (b.mono B.size); clear b
          obtain ⟨ad, x2, ia, m0, hx2⟩ := (H.out.below B).at_ (P := Tryz.prog) Tryz.underlying22 one_u64 (k := a + 2 + i) (List.getElem?_eq_some_iff.1 HX.out).1
          obtain rfl : x2 = x := by have := hx2.out; rw [HX.out] at this; injection this with e; exact e.symm
          have ia2 : ∀ W, (Instr.indexAt 22 v (.int .i64 ((a : Int) + 2 + (i : Int)))).run Tryz.prog W = .ok (.pointer (some ad)) W := ia
          clear hx2 ia
          go_wp2_with fail
          refine (NT.out _ (H.out.below B)).mono ?_
          rintro e wa3 ⟨rfl, b⟩
          try clear c_g2 f_g2 a_g2 d_g2 e_g2
          replace g2 := g2.below b; have c_g2 := g2.cell; have f_g2 := g2.free; have a_g2 := fun o => (g2.alloc o).cell; have d_g2 := fun o o2 => ((g2.alloc o).alloc o2).cell; have e_g2 := fun o => (g2.alloc o).free; replace B := B.trans (b.mono B.size); clear b
          have hp2 := g2.lt
          go_upto_region 9 with (fail)
          refine wp_gen (fun Wv => Below wa3.heap.size wa3 Wv) (((Below.refl _ wa3).alloc (by simp <;> omega) _).alloc (by simp <;> omega) _) ?_
          intro wa4 b
          try clear c_g2 f_g2 a_g2 d_g2 e_g2
          replace g2 := g2.below b; have c_g2 := g2.cell; have f_g2 := g2.free; have a_g2 := fun o => (g2.alloc o).cell; have d_g2 := fun o o2 => ((g2.alloc o).alloc o2).cell; have e_g2 := fun o => (g2.alloc o).free; replace B := B.trans (b.mono B.size); clear b
          go_wp2
          refine bodyPost_ret (v := .tuple #[.slice none 0 0, .agg #[.int .i64 0, .int .i64 0], .int .i64 23]) (by simp [results, Tryz.results23, go_sem, c_g2, f_g2]) rfl ?_
          refine ⟨_, rfl, OwnE.nil _ _, ?_⟩
          (repeat (first | refine Below.setCell ?_ (by first | exact Nat.le_refl _ | (simp <;> omega)) _ | refine Below.alloc ?_ (by first | exact B.size | (have := B.size; simp <;> omega)) _)); exact B
        case pos =>
          subst he90
          subst hre9
          have hE : E = [(a9, v9)] := by rw [hx, oiL, if_pos hr.symm, fd.hW, ha9, hv9]
          have hS : s1 = s9 := by rw [hs1, oiS, if_pos hr.symm, fd.hW, hs9]
          have hG : s2 = g9 := by rw [hs2, oiG, if_pos hr.symm, fd.hW, hg9]
          subst hE; subst hS; subst hG
          clear hx hs1 hs2 hr hx0 h hp hkd he h3 fd hre hx00 hkk he9 hs9 hg9 ha9 hv9 hnc
          go_enter Tryz.func23, Tryz.ntmps23
          go_upto_region 1 with (fail)
          refine wp_gen (fun Wv => Bx Wv (w.heap.size) (24) (#[.int .i64 k, .int .i64 g]) ∧ Bx Wv (w.heap.size + 1) (24) (#[.int .i64 0, .int .i64 0]) ∧ Below w.heap.size w Wv) ⟨(((Bx.at_ (by simp)).alloc _)), ((Bx.at_ (by simp))), (((Below.refl _ w).alloc (by simp <;> omega) _).alloc (by simp <;> omega) _)⟩ ?_
          rintro wa1 ⟨g1, g2, b⟩
          replace B := B.trans (b.mono B.size); clear b
          have c_g1 := g1.cell; have f_g1 := g1.free; have a_g1 := fun o => (g1.alloc o).cell; have d_g1 := fun o o2 => ((g1.alloc o).alloc o2).cell; have e_g1 := fun o => (g1.alloc o).free
          have c_g2 := g2.cell; have f_g2 := g2.free; have a_g2 := fun o => (g2.alloc o).cell; have d_g2 := fun o o2 => ((g2.alloc o).alloc o2).cell; have e_g2 := fun o => (g2.alloc o).free
          go_wp2_with fail
          refine (FT.out _ (H.out.below B)).mono ?_
          rintro e wa2 ⟨rfl, b⟩
          try clear c_g1 f_g1 a_g1 d_g1 e_g1
          replace g1 := g1.below b; have c_g1 := g1.cell; have f_g1 := g1.free; have a_g1 := fun o => (g1.alloc o).cell; have d_g1 := fun o o2 => ((g1.alloc o).alloc o2).cell; have e_g1 := fun o => (g1.alloc o).free; try clear c_g2 f_g2 a_g2 d_g2 e_g2
          replace g2 := g2.below b; have c_g2 := g2.cell; have f_g2 := g2.free; have a_g2 := fun o => (g2.alloc o).cell; have d_g2 := fun o o2 => ((g2.alloc o).alloc o2).cell; have e_g2 := fun o => (g2.alloc o).free; replace B := B.trans (b.mono B.size); clear b
          obtain ⟨ad, x2, ia, m0, hx2⟩ := (H.out.below B).at_ (P := Tryz.prog) Tryz.underlying22 one_u64 (k := a + 2 + i) (List.getElem?_eq_some_iff.1 HX.out).1
          obtain rfl : x2 = x := by have := hx2.out; rw [HX.out] at this; injection this with e; exact e.symm
          have ia2 : ∀ W, (Instr.indexAt 22 v (.int .i64 ((a : Int) + 2 + (i : Int)))).run Tryz.prog W = .ok (.pointer (some ad)) W := ia
          clear hx2 ia
          go_wp2_with fail
          refine (NT.out _ (H.out.below B)).mono ?_
          rintro e wa3 ⟨rfl, b⟩
          try clear c_g2 f_g2 a_g2 d_g2 e_g2
          replace g2 := g2.below b; have c_g2 := g2.cell; have f_g2 := g2.free; have a_g2 := fun o => (g2.alloc o).cell; have d_g2 := fun o o2 => ((g2.alloc o).alloc o2).cell; have e_g2 := fun o => (g2.alloc o).free; replace B := B.trans (b.mono B.size); clear b
          have hp2 := g2.lt
          go_upto_region 9 with (fail)
          refine wp_gen (fun Wv => Bx Wv (wa3.heap.size) (24) (#[.int .i64 s1, .int .i64 s2]) ∧ Bx Wv (wa3.heap.size + 1) (61) (#[.int .i64 a9, .int .u64 v9.toNat]) ∧ Below wa3.heap.size wa3 Wv) ⟨(((Bx.at_ (by simp)).alloc _)), ((Bx.at_ (by simp))), (((Below.refl _ wa3).alloc (by simp <;> omega) _).alloc (by simp <;> omega) _)⟩ ?_
          rintro wa4 ⟨g7, g8, b⟩
          try clear c_g2 f_g2 a_g2 d_g2 e_g2
          replace g2 := g2.below b; have c_g2 := g2.cell; have f_g2 := g2.free; have a_g2 := fun o => (g2.alloc o).cell; have d_g2 := fun o o2 => ((g2.alloc o).alloc o2).cell; have e_g2 := fun o => (g2.alloc o).free; replace B := B.trans (b.mono B.size); clear b
          have c_g7 := g7.cell; have f_g7 := g7.free; have a_g7 := fun o => (g7.alloc o).cell; have d_g7 := fun o o2 => ((g7.alloc o).alloc o2).cell; have e_g7 := fun o => (g7.alloc o).free
          have c_g8 := g8.cell; have f_g8 := g8.free; have a_g8 := fun o => (g8.alloc o).cell; have d_g8 := fun o o2 => ((g8.alloc o).alloc o2).cell; have e_g8 := fun o => (g8.alloc o).free
          go_upto_region 11 with (fail)
          have hb4 := B.size
          have hne2 : w.heap.size + 1 ≠ wa3.heap.size := by omega
          clear a_g2 d_g2 e_g2 c_g2 f_g2 a_g7 d_g7 e_g7 f_g7 c_g7 a_g8 d_g8 e_g8 f_g8 c_g8
          have c_g7 := fun x : Fut _ => (g7.below x.h).cell
          have c_g8 := fun x : Fut _ => (g8.below x.h).cell
          refine wp_region_fblock 4 1 (fun p => .slice (some ⟨p, 0, none⟩) 1 1) 61 (#[.int .i64 a9, .int .u64 v9.toNat]) (mk_sl 1) (by kernel_rfl) (by kernel_rfl) (by kernel_rfl) ?_
          intro gg pq eq
          simp only [List.take_succ_cons, List.take_zero, List.drop_succ_cons, List.drop_zero]
          iterate 1 (refine wpH_read0 rfl rfl ?_; go_big_quiet_step (fail); refine wpQuiet_nil ?_)
          refine wpH_new rfl rfl (TS.block (Instr.buildSlice 27 1 #[(0, .agg #[.int .i64 a9, .int .u64 v9.toNat])]) (by simp [execOp, Act.eval]) (fun W => by simp [go_sem])) ?_
          rw [eq]
          simp only [Act.put, List.setIfInBounds_toArray, List.set_cons_zero, List.set_cons_succ]
          iterate 2 (refine wpH_read0 rfl rfl ?_; go_big_quiet_step (fail); refine wpQuiet_nil ?_)
          refine wpH_nil ?_
          intro W1 bW gq hpq
          have g3 := g2.below bW
          replace B := B.trans (bW.mono hb4)
          have c_g3 := g3.cell; have f_g3 := g3.free
          have HGQ := Lib.hid (And.intro gq (And.intro g3 B))
          clear c_g7 c_g8 g2 gq B
          go_wp2
          refine bodyPost_ret (v := .tuple #[.slice (some ⟨pq, 0, none⟩) 1 1, .agg #[.int .i64 s1, .int .i64 s2], .int .i64 0]) (by simp [results, Tryz.results23, go_sem, c_g3, f_g3]) rfl ?_
          obtain ⟨gq, g3, B⟩ := HGQ.out
          refine ⟨_, rfl, own_set (own_set (ent_bx gq (by omega)) g3 (by decide)) (g3.set _) (by decide), ?_⟩
          exact (B.setCell (p := ⟨w.heap.size + 1, 0, none⟩) (by simp) _).setCell (p := ⟨w.heap.size + 1, 1, none⟩) (by simp) _
end Go.Proofs.YtbfmdbeeiicabaaGreat
namespace Go.Proofs.YtbfmdbeeiicabaaGreat
open Go.RowKit L02 L05 L13 L19 L20
theorem hdl_same (a b : Int) (W : World) : (binOp .eql 24 (.agg #[.int .i64 a, .int .i64 b]) (.agg #[.int .i64 a, .int .i64 b])).run Tryz.prog W = .ok (.bool true) W := by
  simp [go_sem]
set_option maxRecDepth 100000 in
set_option maxHeartbeats 8000000 in
theorem FieldsCalls_walk (v0 : Value) (l : List UInt64) (a0 b0 a1 b1 : Int) (nn : Bool) (fi : Int) (x : UInt64) (w : World) (h0 : Words w v0 l) (_f1 : -9223372036854775808 ≤ a0 ∧ a0 ≤ 9223372036854775807) (_f2 : -9223372036854775808 ≤ b0 ∧ b0 ≤ 9223372036854775807) (_f3 : -9223372036854775808 ≤ a1 ∧ a1 ≤ 9223372036854775807) (_f4 : -9223372036854775808 ≤ b1 ∧ b1 ≤ 9223372036854775807) (_f5 : -9223372036854775808 ≤ fi ∧ fi ≤ 9223372036854775807) :
    Calls Tryz.prog 4 #[v0, .agg #[.int .i64 a0, .int .i64 b0], .agg #[.int .i64 a1, .int .i64 b1], .bool nn, .int .i64 fi, .int .u64 x.toNat] w fun e w' => e = .returned (.bool true) ∧ Below w.heap.size w w' := by
  have B : Below w.heap.size w w := Below.refl _ _
  have H := Lib.hid h0; clear h0 _f1 _f2 _f3 _f4 _f5
  have G := Lib.hid (fun w h => Great_any v0 l w h)
  obtain ⟨gr, hgr⟩ : ∃ g, g = decide (2100 < l.length) := ⟨_, rfl⟩
  have HGR := Lib.hid hgr
  rw [← hgr] at G
  clear hgr
  cases gr
  case true =>
    go_enter Tryz.func4, Tryz.ntmps4
    go_upto_region 1 with (fail)
    refine wp_gen (fun Wv => Bx Wv (w.heap.size) (24) (#[.int .i64 a0, .int .i64 b0]) ∧ Bx Wv (w.heap.size + 1) (24) (#[.int .i64 a1, .int .i64 b1]) ∧ Below w.heap.size w Wv) ⟨(((Bx.at_ (by simp)).alloc _)), ((Bx.at_ (by simp))), (((Below.refl _ w).alloc (by simp <;> omega) _).alloc (by simp <;> omega) _)⟩ ?_
    rintro wa1 ⟨g1, g2, b⟩
    replace B := B.trans (b.mono B.size); clear b
    have c_g1 := g1.cell; have f_g1 := g1.free; have a_g1 := fun o => (g1.alloc o).cell; have d_g1 := fun o o2 => ((g1.alloc o).alloc o2).cell; have e_g1 := fun o => (g1.alloc o).free
    have c_g2 := g2.cell; have f_g2 := g2.free; have a_g2 := fun o => (g2.alloc o).cell; have d_g2 := fun o o2 => ((g2.alloc o).alloc o2).cell; have e_g2 := fun o => (g2.alloc o).free
    go_wp2_with fail
    refine (G.out _ (H.out.below B)).mono ?_
    rintro e w2 ⟨rfl, rfl⟩
    go_wp2
    go_ret
    exact ⟨rfl, B⟩
  case false =>
    have hl : l.length ≤ 1048576 := by have := HGR.out; simp at this; omega
    have HL := Lib.hid hl
    clear hl
    obtain ⟨tq, htq⟩ : ∃ t : Option (Int × Int), t = cond nn none (some (a1, b1)) := ⟨_, rfl⟩
    obtain ⟨x1, h1⟩ : ∃ v, v = giV l a0 b0 fi := ⟨_, rfl⟩
    obtain ⟨r1, h2⟩ : ∃ v, v = giE l a0 b0 fi := ⟨_, rfl⟩
    obtain ⟨E2, h3⟩ : ∃ v, v = siL l a0 b0 fi x := ⟨_, rfl⟩
    obtain ⟨E3, h4⟩ : ∃ v, v = riL l a0 b0 fi tq := ⟨_, rfl⟩
    obtain ⟨r3, h5⟩ : ∃ v, v = riE l a0 b0 fi tq := ⟨_, rfl⟩
    obtain ⟨E4, h6⟩ : ∃ v, v = oiL l a0 b0 fi := ⟨_, rfl⟩
    obtain ⟨s4, h7⟩ : ∃ v, v = oiS l a0 b0 fi := ⟨_, rfl⟩
    obtain ⟨g4, h8⟩ : ∃ v, v = oiG l a0 b0 fi := ⟨_, rfl⟩
    obtain ⟨r4, h9⟩ : ∃ v, v = oiE l a0 b0 fi := ⟨_, rfl⟩
    have T1 := Lib.hid (fun v w h => Get24_any v l a0 b0 fi x1 r1 h1 h2 w h)
    have T2 := Lib.hid (fun v w h => GetR24_any v l a0 b0 fi x1 r1 h1 h2 w h)
    have T3 := Lib.hid (fun v w h => Set24_any v l a0 b0 fi x E2 r1 h3 h2 w h)
    have T4 := Lib.hid (fun v w h => SetR24_any v l a0 b0 fi x E2 r1 h3 h2 w h)
    have T5 := Lib.hid (fun v pv w h hp => SetRef24_any v pv l a0 b0 fi tq E3 r3 h4 h5 w h hp)
    have T6 := Lib.hid (fun v pv w h hp => SetRefR24_any v pv l a0 b0 fi tq E3 r3 h4 h5 w h hp)
    have T7 := Lib.hid (fun v w h => Root24_any v l a0 b0 fi E4 s4 g4 r4 h6 h7 h8 h9 w h)
    have T8 := Lib.hid (fun v w h => RootR24_any v l a0 b0 fi E4 s4 g4 r4 h6 h7 h8 h9 w h)
    have S2 := Lib.hid (fun va vb w ha hb => Same22_any va vb E2 E2 true (by simp) w ha hb)
    have S3 := Lib.hid (fun va vb w ha hb => Same22_any va vb E3 E3 true (by simp) w ha hb)
    have S4 := Lib.hid (fun va vb w ha hb => Same22_any va vb E4 E4 true (by simp) w ha hb)
    have hq := hdl_same s4 g4
    have HTQ := Lib.hid htq
    clear h1 h2 h3 h4 h5 h6 h7 h8 h9 htq
    cases nn
    all_goals
      go_enter Tryz.func4, Tryz.ntmps4
      go_upto_region 1 with (fail)
      refine wp_gen (fun Wv => Bx Wv (w.heap.size) (24) (#[.int .i64 a0, .int .i64 b0]) ∧ Bx Wv (w.heap.size + 1) (24) (#[.int .i64 a1, .int .i64 b1]) ∧ Below w.heap.size w Wv) ⟨(((Bx.at_ (by simp)).alloc _)), ((Bx.at_ (by simp))), (((Below.refl _ w).alloc (by simp <;> omega) _).alloc (by simp <;> omega) _)⟩ ?_
      rintro wa1 ⟨g1, g2, b⟩
      replace B := B.trans (b.mono B.size); clear b
      have c_g1 := g1.cell; have f_g1 := g1.free; have a_g1 := fun o => (g1.alloc o).cell; have d_g1 := fun o o2 => ((g1.alloc o).alloc o2).cell; have e_g1 := fun o => (g1.alloc o).free
      have c_g2 := g2.cell; have f_g2 := g2.free; have a_g2 := fun o => (g2.alloc o).cell; have d_g2 := fun o o2 => ((g2.alloc o).alloc o2).cell; have e_g2 := fun o => (g2.alloc o).free
      go_wp2_with fail
      refine (G.out _ (H.out.below B)).mono ?_
      rintro e w2 ⟨rfl, rfl⟩
      go_wp2_with fail
      refine (Twin_any v0 l _ (H.out.below B) HL.out).mono ?_
      rintro e wa2 ⟨y, rfl, oy, b⟩
      try clear c_g1 f_g1 a_g1 d_g1 e_g1
      replace g1 := g1.below b; have c_g1 := g1.cell; have f_g1 := g1.free; have a_g1 := fun o => (g1.alloc o).cell; have d_g1 := fun o o2 => ((g1.alloc o).alloc o2).cell; have e_g1 := fun o => (g1.alloc o).free; try clear c_g2 f_g2 a_g2 d_g2 e_g2
      replace g2 := g2.below b; have c_g2 := g2.cell; have f_g2 := g2.free; have a_g2 := fun o => (g2.alloc o).cell; have d_g2 := fun o o2 => ((g2.alloc o).alloc o2).cell; have e_g2 := fun o => (g2.alloc o).free; replace B := B.trans (b.mono B.size); clear b
      have ry := oy.rd
      clear oy
      go_wp2_with fail
      refine (T1.out _ _ (H.out.below B)).mono ?_
      rintro e wa3 ⟨rfl, b⟩
      try clear c_g1 f_g1 a_g1 d_g1 e_g1
      replace g1 := g1.below b; have c_g1 := g1.cell; have f_g1 := g1.free; have a_g1 := fun o => (g1.alloc o).cell; have d_g1 := fun o o2 => ((g1.alloc o).alloc o2).cell; have e_g1 := fun o => (g1.alloc o).free; try clear c_g2 f_g2 a_g2 d_g2 e_g2
      replace g2 := g2.below b; have c_g2 := g2.cell; have f_g2 := g2.free; have a_g2 := fun o => (g2.alloc o).cell; have d_g2 := fun o o2 => ((g2.alloc o).alloc o2).cell; have e_g2 := fun o => (g2.alloc o).free; replace ry := ry.below b; replace B := B.trans (b.mono B.size); clear b
      go_wp2_with fail
      refine (T2.out _ _ ry).mono ?_
      rintro e wa4 ⟨rfl, b⟩
      try clear c_g1 f_g1 a_g1 d_g1 e_g1
      replace g1 := g1.below b; have c_g1 := g1.cell; have f_g1 := g1.free; have a_g1 := fun o => (g1.alloc o).cell; have d_g1 := fun o o2 => ((g1.alloc o).alloc o2).cell; have e_g1 := fun o => (g1.alloc o).free; try clear c_g2 f_g2 a_g2 d_g2 e_g2
      replace g2 := g2.below b; have c_g2 := g2.cell; have f_g2 := g2.free; have a_g2 := fun o => (g2.alloc o).cell; have d_g2 := fun o o2 => ((g2.alloc o).alloc o2).cell; have e_g2 := fun o => (g2.alloc o).free; replace ry := ry.below b; replace B := B.trans (b.mono B.size); clear b
      go_wp2_with fail
      refine (T3.out _ _ (H.out.below B)).mono ?_
      rintro e wa5 ⟨y1, rfl, o1, b⟩
      try clear c_g1 f_g1 a_g1 d_g1 e_g1
      replace g1 := g1.below b; have c_g1 := g1.cell; have f_g1 := g1.free; have a_g1 := fun o => (g1.alloc o).cell; have d_g1 := fun o o2 => ((g1.alloc o).alloc o2).cell; have e_g1 := fun o => (g1.alloc o).free; try clear c_g2 f_g2 a_g2 d_g2 e_g2
      replace g2 := g2.below b; have c_g2 := g2.cell; have f_g2 := g2.free; have a_g2 := fun o => (g2.alloc o).cell; have d_g2 := fun o o2 => ((g2.alloc o).alloc o2).cell; have e_g2 := fun o => (g2.alloc o).free; replace ry := ry.below b; replace B := B.trans (b.mono B.size); clear b
      have q1 := o1.rd
      clear o1
      go_wp2_with fail
      refine (T4.out _ _ ry).mono ?_
      rintro e wa6 ⟨y2, rfl, o2, b⟩
      try clear c_g1 f_g1 a_g1 d_g1 e_g1
      replace g1 := g1.below b; have c_g1 := g1.cell; have f_g1 := g1.free; have a_g1 := fun o => (g1.alloc o).cell; have d_g1 := fun o o2 => ((g1.alloc o).alloc o2).cell; have e_g1 := fun o => (g1.alloc o).free; try clear c_g2 f_g2 a_g2 d_g2 e_g2
      replace g2 := g2.below b; have c_g2 := g2.cell; have f_g2 := g2.free; have a_g2 := fun o => (g2.alloc o).cell; have d_g2 := fun o o2 => ((g2.alloc o).alloc o2).cell; have e_g2 := fun o => (g2.alloc o).free; replace ry := ry.below b; replace q1 := q1.below b; replace B := B.trans (b.mono B.size); clear b
      have q2 := o2.rd
      clear o2
      go_wp2_with fail
      refine (T5.out _ _ _ (H.out.below B) (by rw [HTQ.out]; first | exact ⟨_, rfl, g2⟩ | rfl)).mono ?_
      rintro e wa7 ⟨y3, rfl, o3, b⟩
      try clear c_g1 f_g1 a_g1 d_g1 e_g1
      replace g1 := g1.below b; have c_g1 := g1.cell; have f_g1 := g1.free; have a_g1 := fun o => (g1.alloc o).cell; have d_g1 := fun o o2 => ((g1.alloc o).alloc o2).cell; have e_g1 := fun o => (g1.alloc o).free; try clear c_g2 f_g2 a_g2 d_g2 e_g2
      replace g2 := g2.below b; have c_g2 := g2.cell; have f_g2 := g2.free; have a_g2 := fun o => (g2.alloc o).cell; have d_g2 := fun o o2 => ((g2.alloc o).alloc o2).cell; have e_g2 := fun o => (g2.alloc o).free; replace ry := ry.below b; replace q1 := q1.below b; replace q2 := q2.below b; replace B := B.trans (b.mono B.size); clear b
      have q3 := o3.rd
      clear o3
      go_wp2_with fail
      refine (T6.out _ _ _ ry (by rw [HTQ.out]; first | exact ⟨_, rfl, g2⟩ | rfl)).mono ?_
      rintro e wa8 ⟨y4, rfl, o4, b⟩
      try clear c_g1 f_g1 a_g1 d_g1 e_g1
      replace g1 := g1.below b; have c_g1 := g1.cell; have f_g1 := g1.free; have a_g1 := fun o => (g1.alloc o).cell; have d_g1 := fun o o2 => ((g1.alloc o).alloc o2).cell; have e_g1 := fun o => (g1.alloc o).free; try clear c_g2 f_g2 a_g2 d_g2 e_g2
      replace g2 := g2.below b; have c_g2 := g2.cell; have f_g2 := g2.free; have a_g2 := fun o => (g2.alloc o).cell; have d_g2 := fun o o2 => ((g2.alloc o).alloc o2).cell; have e_g2 := fun o => (g2.alloc o).free; replace ry := ry.below b; replace q1 := q1.below b; replace q2 := q2.below b; replace q3 := q3.below b; replace B := B.trans (b.mono B.size); clear b
      have q4 := o4.rd
      clear o4
      clear c_g2 f_g2 a_g2 d_g2 e_g2
      clear g2
      go_wp2_with fail
      refine (T7.out _ _ (H.out.below B)).mono ?_
      rintro e wa9 ⟨y5, rfl, o5, b⟩
      try clear c_g1 f_g1 a_g1 d_g1 e_g1
      replace g1 := g1.below b; have c_g1 := g1.cell; have f_g1 := g1.free; have a_g1 := fun o => (g1.alloc o).cell; have d_g1 := fun o o2 => ((g1.alloc o).alloc o2).cell; have e_g1 := fun o => (g1.alloc o).free; replace ry := ry.below b; replace q1 := q1.below b; replace q2 := q2.below b; replace q3 := q3.below b; replace q4 := q4.below b; replace B := B.trans (b.mono B.size); clear b
      have q5 := o5.rd
      clear o5
      go_upto_region 14 with (fail)
      refine wp_gen (fun Wv => Bx Wv (wa9.heap.size) (24) (#[.int .i64 s4, .int .i64 g4]) ∧ Below wa9.heap.size wa9 Wv) ⟨((Bx.at_ (by simp))), ((Below.refl _ wa9).alloc (by simp <;> omega) _)⟩ ?_
      rintro wa10 ⟨g7, b⟩
      try clear c_g1 f_g1 a_g1 d_g1 e_g1
      replace g1 := g1.below b; have c_g1 := g1.cell; have f_g1 := g1.free; have a_g1 := fun o => (g1.alloc o).cell; have d_g1 := fun o o2 => ((g1.alloc o).alloc o2).cell; have e_g1 := fun o => (g1.alloc o).free; replace ry := ry.below b; replace q1 := q1.below b; replace q2 := q2.below b; replace q3 := q3.below b; replace q4 := q4.below b; replace q5 := q5.below b; replace B := B.trans (b.mono B.size); clear b
      have c_g7 := g7.cell; have f_g7 := g7.free; have a_g7 := fun o => (g7.alloc o).cell; have d_g7 := fun o o2 => ((g7.alloc o).alloc o2).cell; have e_g7 := fun o => (g7.alloc o).free
      go_wp2_with fail
      refine (T8.out _ _ ry).mono ?_
      rintro e wa11 ⟨y6, rfl, o6, b⟩
      try clear c_g1 f_g1 a_g1 d_g1 e_g1
      replace g1 := g1.below b; have c_g1 := g1.cell; have f_g1 := g1.free; have a_g1 := fun o => (g1.alloc o).cell; have d_g1 := fun o o2 => ((g1.alloc o).alloc o2).cell; have e_g1 := fun o => (g1.alloc o).free; replace ry := ry.below b; replace q1 := q1.below b; replace q2 := q2.below b; replace q3 := q3.below b; replace q4 := q4.below b; replace q5 := q5.below b; try clear c_g7 f_g7 a_g7 d_g7 e_g7
      replace g7 := g7.below b; have c_g7 := g7.cell; have f_g7 := g7.free; have a_g7 := fun o => (g7.alloc o).cell; have d_g7 := fun o o2 => ((g7.alloc o).alloc o2).cell; have e_g7 := fun o => (g7.alloc o).free; replace B := B.trans (b.mono B.size); clear b
      have q6 := o6.rd
      clear o6
      clear c_g1 f_g1 a_g1 d_g1 e_g1
      clear g1
      go_upto_region 15 with (fail)
      refine wp_gen (fun Wv => Bx Wv (wa11.heap.size) (24) (#[.int .i64 s4, .int .i64 g4]) ∧ Below wa11.heap.size wa11 Wv) ⟨((Bx.at_ (by simp))), ((Below.refl _ wa11).alloc (by simp <;> omega) _)⟩ ?_
      rintro wa12 ⟨g8, b⟩
      try clear c_g7 f_g7 a_g7 d_g7 e_g7
      replace g7 := g7.below b; have c_g7 := g7.cell; have f_g7 := g7.free; have a_g7 := fun o => (g7.alloc o).cell; have d_g7 := fun o o2 => ((g7.alloc o).alloc o2).cell; have e_g7 := fun o => (g7.alloc o).free; replace ry := ry.below b; replace q1 := q1.below b; replace q2 := q2.below b; replace q3 := q3.below b; replace q4 := q4.below b; replace q5 := q5.below b; replace q6 := q6.below b; replace B := B.trans (b.mono B.size); clear b
      have c_g8 := g8.cell; have f_g8 := g8.free; have a_g8 := fun o => (g8.alloc o).cell; have d_g8 := fun o o2 => ((g8.alloc o).alloc o2).cell; have e_g8 := fun o => (g8.alloc o).free
      go_wp2_with fail
      refine (S2.out _ _ _ q1 q2).mono ?_
      rintro e wa13 ⟨rfl, b⟩
      try clear c_g7 f_g7 a_g7 d_g7 e_g7
      replace g7 := g7.below b; have c_g7 := g7.cell; have f_g7 := g7.free; have a_g7 := fun o => (g7.alloc o).cell; have d_g7 := fun o o2 => ((g7.alloc o).alloc o2).cell; have e_g7 := fun o => (g7.alloc o).free; replace ry := ry.below b; replace q1 := q1.below b; replace q2 := q2.below b; replace q3 := q3.below b; replace q4 := q4.below b; replace q5 := q5.below b; replace q6 := q6.below b; try clear c_g8 f_g8 a_g8 d_g8 e_g8
      replace g8 := g8.below b; have c_g8 := g8.cell; have f_g8 := g8.free; have a_g8 := fun o => (g8.alloc o).cell; have d_g8 := fun o o2 => ((g8.alloc o).alloc o2).cell; have e_g8 := fun o => (g8.alloc o).free; replace B := B.trans (b.mono B.size); clear b
      go_wp2_with fail
      refine (S3.out _ _ _ q3 q4).mono ?_
      rintro e wa14 ⟨rfl, b⟩
      try clear c_g7 f_g7 a_g7 d_g7 e_g7
      replace g7 := g7.below b; have c_g7 := g7.cell; have f_g7 := g7.free; have a_g7 := fun o => (g7.alloc o).cell; have d_g7 := fun o o2 => ((g7.alloc o).alloc o2).cell; have e_g7 := fun o => (g7.alloc o).free; replace ry := ry.below b; replace q1 := q1.below b; replace q2 := q2.below b; replace q3 := q3.below b; replace q4 := q4.below b; replace q5 := q5.below b; replace q6 := q6.below b; try clear c_g8 f_g8 a_g8 d_g8 e_g8
      replace g8 := g8.below b; have c_g8 := g8.cell; have f_g8 := g8.free; have a_g8 := fun o => (g8.alloc o).cell; have d_g8 := fun o o2 => ((g8.alloc o).alloc o2).cell; have e_g8 := fun o => (g8.alloc o).free; replace B := B.trans (b.mono B.size); clear b
      go_wp2_with fail
      refine (S4.out _ _ _ q5 q6).mono ?_
      rintro e wa15 ⟨rfl, b⟩
      try clear c_g7 f_g7 a_g7 d_g7 e_g7
      replace g7 := g7.below b; have c_g7 := g7.cell; have f_g7 := g7.free; have a_g7 := fun o => (g7.alloc o).cell; have d_g7 := fun o o2 => ((g7.alloc o).alloc o2).cell; have e_g7 := fun o => (g7.alloc o).free; replace ry := ry.below b; replace q1 := q1.below b; replace q2 := q2.below b; replace q3 := q3.below b; replace q4 := q4.below b; replace q5 := q5.below b; replace q6 := q6.below b; try clear c_g8 f_g8 a_g8 d_g8 e_g8
      replace g8 := g8.below b; have c_g8 := g8.cell; have f_g8 := g8.free; have a_g8 := fun o => (g8.alloc o).cell; have d_g8 := fun o o2 => ((g8.alloc o).alloc o2).cell; have e_g8 := fun o => (g8.alloc o).free; replace B := B.trans (b.mono B.size); clear b
      go_wp2_with fail
      refine (Same_r v0 y l l true (by simp [L02.same]) _ (H.out.below B) ry).mono ?_
      rintro e w77 ⟨rfl, b⟩
      replace B := B.trans (b.mono B.size)
      go_wp2
      go_ret
      exact ⟨rfl, B⟩
end Go.Proofs.YtbfmdbeeiicabaaGreat
