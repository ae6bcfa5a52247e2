/- Contracts of the functions that the laws 'A' reach, part 20. No condition. -/
import Derived.Test.YtmbokdnndlnjkaaMAs
set_option linter.unusedVariables false
set_option linter.unusedSimpArgs false
namespace Go.Proofs.Ytmbokdnndlnjkaa
open Go.RowKit L01 L02 L05 L06 L07 L13 L14 L15 L18 L19 L20
theorem ent_bx {w : World} {base p : Nat} {a : Int} {x : UInt64} (h : Bx w p 50 #[.int .i64 a, .int .u64 x.toNat]) (hb : base ≤ p) : OwnE w base (.slice (some ⟨p, 0, none⟩) 1 1) [(a, x)] :=
  ⟨rfl, .inr ⟨p, 1, #[.int .i64 a, .int .u64 x.toNat], rfl, hb, h, Nat.le_refl _, by decide, rfl, rfl⟩⟩
set_option maxRecDepth 100000 in
set_option maxHeartbeats 2000000 in
theorem SetRef24_any (v pv : Value) (l : List UInt64) (sl g n : Int) (tq : Option (Int × Int)) (E : List (Int × UInt64)) (r : Int) (hx : E = riL l sl g n tq) (hr : r = riE l sl g n tq) (w : World) (h : Words w v l) (hpt : PtrH w pv tq) :
    Calls Try.prog 17 #[v, .agg #[.int .i64 sl, .int .i64 g], .int .i64 n, pv] w fun e w' => ∃ y, e = .returned (.tuple #[y, .int .i64 r]) ∧ OwnE w' w.heap.size y E ∧ Below w.heap.size w w' := by
  have B : Below w.heap.size w w := Below.refl _ _
  have H := Lib.hid h
  obtain ⟨p, hp⟩ : ∃ p, p = kiAt l sl g n := ⟨_, rfl⟩
  obtain ⟨kd, hkd⟩ : ∃ k, k = kiK l sl g n := ⟨_, rfl⟩
  obtain ⟨e0, he⟩ : ∃ e, e = kiErr l sl g n := ⟨_, rfl⟩
  have FT := Lib.hid (fun w h => find24_any v l sl g n p kd e0 hp hkd he w h)
  have hx0 : r ≠ 0 → E = [] := fun h0 => by rw [hx]; unfold riL; rw [if_neg (by rw [← hr]; exact h0)]
  by_cases h0 : e0 = 0
  case neg =>
    have hre : r = e0 := by rw [hr]; unfold riE; rw [← he, if_neg h0]
    obtain rfl := hx0 (by rw [hre]; exact h0)
    subst hre
    have n1 : (r != 0) = true := by rw [bne_iff_ne]; exact h0
    clear hx hr hx0 h hp hkd he h0 hpt
    go_enter Try.func17, Try.ntmps17
    go_upto_region 1 with (fail)
    refine wp_gen (fun Wv => Bx Wv (w.heap.size) (35) (#[.int .i64 sl, .int .i64 g]) ∧ Below w.heap.size w Wv) ⟨((Bx.at_ (by simp))), ((Below.refl _ w).alloc (by simp <;> omega) _)⟩ ?_
    rintro wa1 ⟨g1, b⟩
    replace B := B.trans (b.mono B.size); clear b
    have c_g1 := g1.cell; have f_g1 := g1.free; have a_g1 := fun o => (g1.alloc o).cell; have d_g1 := fun o o2 => ((g1.alloc o).alloc o2).cell; have e_g1 := fun o => (g1.alloc o).free
    go_wp2_with fail
    refine (FT.out _ (H.out.below B)).mono ?_
    rintro e wa2 ⟨rfl, b⟩
    try clear c_g1 f_g1 a_g1 d_g1 e_g1
    replace g1 := g1.below b; have c_g1 := g1.cell; have f_g1 := g1.free; have a_g1 := fun o => (g1.alloc o).cell; have d_g1 := fun o o2 => ((g1.alloc o).alloc o2).cell; have e_g1 := fun o => (g1.alloc o).free; replace B := B.trans (b.mono B.size); clear b
    go_wp2
    go_ret2
    exact ⟨_, rfl, OwnE.nil _ _, B⟩
  case pos =>
    subst h0
    by_cases h3 : kd.toNat = 3
    case neg =>
      have hre : r = 42 := by rw [hr]; unfold riE; rw [if_pos he.symm, ← hkd, if_neg h3]
      obtain rfl := hx0 (by rw [hre]; decide)
      subst hre
      have k3 : ((kd.toNat : Int) != 3) = true := by rw [bne_iff_ne]; omega
      clear hx hr hx0 h hp hkd he h3 hpt
      go_enter Try.func17, Try.ntmps17
      go_upto_region 1 with (fail)
      refine wp_gen (fun Wv => Bx Wv (w.heap.size) (35) (#[.int .i64 sl, .int .i64 g]) ∧ Below w.heap.size w Wv) ⟨((Bx.at_ (by simp))), ((Below.refl _ w).alloc (by simp <;> omega) _)⟩ ?_
      rintro wa1 ⟨g1, b⟩
      replace B := B.trans (b.mono B.size); clear b
      have c_g1 := g1.cell; have f_g1 := g1.free; have a_g1 := fun o => (g1.alloc o).cell; have d_g1 := fun o o2 => ((g1.alloc o).alloc o2).cell; have e_g1 := fun o => (g1.alloc o).free
      go_wp2_with fail
      refine (FT.out _ (H.out.below B)).mono ?_
      rintro e wa2 ⟨rfl, b⟩
      try clear c_g1 f_g1 a_g1 d_g1 e_g1
      replace g1 := g1.below b; have c_g1 := g1.cell; have f_g1 := g1.free; have a_g1 := fun o => (g1.alloc o).cell; have d_g1 := fun o o2 => ((g1.alloc o).alloc o2).cell; have e_g1 := fun o => (g1.alloc o).free; replace B := B.trans (b.mono B.size); clear b
      go_wp2
      go_ret2
      exact ⟨_, rfl, OwnE.nil _ _, B⟩
    case pos =>
      have k3 : ((kd.toNat : Int) != 3) = false := by rw [bne_eq_false_iff_eq]; omega
      cases tq with
      | none =>
        have hre : r = 0 := by rw [hr]; unfold riE; rw [if_pos he.symm, ← hkd, if_pos h3]
        have hE : E = [(p, 0)] := by rw [hx]; unfold riL; rw [if_pos (by rw [← hr]; exact hre), ← hp]; rfl
        subst hre; subst hE
        have hpn : pv = .pointer none := hpt
        subst hpn
        clear hx hr hx0 h hp hkd he h3 hpt
        go_enter Try.func17, Try.ntmps17
        go_upto_region 1 with (fail)
        refine wp_gen (fun Wv => Bx Wv (w.heap.size) (35) (#[.int .i64 sl, .int .i64 g]) ∧ Below w.heap.size w Wv) ⟨((Bx.at_ (by simp))), ((Below.refl _ w).alloc (by simp <;> omega) _)⟩ ?_
        rintro wa1 ⟨g1, b⟩
        replace B := B.trans (b.mono B.size); clear b
        have c_g1 := g1.cell; have f_g1 := g1.free; have a_g1 := fun o => (g1.alloc o).cell; have d_g1 := fun o o2 => ((g1.alloc o).alloc o2).cell; have e_g1 := fun o => (g1.alloc o).free
        go_wp2_with fail
        refine (FT.out _ (H.out.below B)).mono ?_
        rintro e wa2 ⟨rfl, b⟩
        try clear c_g1 f_g1 a_g1 d_g1 e_g1
        replace g1 := g1.below b; have c_g1 := g1.cell; have f_g1 := g1.free; have a_g1 := fun o => (g1.alloc o).cell; have d_g1 := fun o o2 => ((g1.alloc o).alloc o2).cell; have e_g1 := fun o => (g1.alloc o).free; replace B := B.trans (b.mono B.size); clear b
        go_upto_region 7 with (fail)
        refine wp_gen (fun Wv => Bx Wv (wa2.heap.size) (50) (#[.int .i64 p, .int .u64 0]) ∧ Below wa2.heap.size wa2 Wv) ⟨((Bx.at_ (by simp))), ((Below.refl _ wa2).alloc (by simp <;> omega) _)⟩ ?_
        rintro wa3 ⟨g6, b⟩
        try clear c_g1 f_g1 a_g1 d_g1 e_g1
        replace g1 := g1.below b; have c_g1 := g1.cell; have f_g1 := g1.free; have a_g1 := fun o => (g1.alloc o).cell; have d_g1 := fun o o2 => ((g1.alloc o).alloc o2).cell; have e_g1 := fun o => (g1.alloc o).free; replace B := B.trans (b.mono B.size); clear b
        have c_g6 := g6.cell; have f_g6 := g6.free; have a_g6 := fun o => (g6.alloc o).cell; have d_g6 := fun o o2 => ((g6.alloc o).alloc o2).cell; have e_g6 := fun o => (g6.alloc o).free
        go_wp2
        go_ret2
        exact ⟨_, rfl, ent_own (x := 0) B.size, B.alloc B.size _⟩
      | some t =>
        obtain ⟨gp, rfl, gb⟩ := hpt
        obtain ⟨d, hd⟩ : ∃ d, d = resErr l t.1 t.2 := ⟨_, rfl⟩
        obtain ⟨a9, ha9⟩ : ∃ a, a = res l t.1 t.2 := ⟨_, rfl⟩
        have RT := Lib.hid (fun w h => Resolve_any v l t.1 t.2 a9 d ha9 hd w h)
        have hre : r = d := by rw [hr]; unfold riE; rw [if_pos he.symm, ← hkd, if_pos h3]; exact hd.symm
        obtain ⟨t1, t2⟩ := t
        dsimp only at gb RT ha9 hd
        by_cases hd0 : d = 0
        case neg =>
          obtain rfl := hx0 (by rw [hre]; exact hd0)
          subst hre
          have n1 : (r != 0) = true := by rw [bne_iff_ne]; exact hd0
          clear hx hr hx0 h hp hkd he h3 hd hd0 ha9
          have g5 := gb
          clear gb
          go_enter Try.func17, Try.ntmps17
          go_upto_region 1 with (fail)
          refine wp_gen (fun Wv => Bx Wv (w.heap.size) (35) (#[.int .i64 sl, .int .i64 g]) ∧ Below w.heap.size w Wv) ⟨((Bx.at_ (by simp))), ((Below.refl _ w).alloc (by simp <;> omega) _)⟩ ?_
          rintro wa1 ⟨g1, b⟩
          try clear c_g5 f_g5 a_g5 d_g5 e_g5
          replace g5 := g5.below b; have c_g5 := g5.cell; have f_g5 := g5.free; have a_g5 := fun o => (g5.alloc o).cell; have d_g5 := fun o o2 => ((g5.alloc o).alloc o2).cell; have e_g5 := fun o => (g5.alloc o).free; replace B := B.trans (b.mono B.size); clear b
          have c_g1 := g1.cell; have f_g1 := g1.free; have a_g1 := fun o => (g1.alloc o).cell; have d_g1 := fun o o2 => ((g1.alloc o).alloc o2).cell; have e_g1 := fun o => (g1.alloc o).free
          go_wp2_with fail
          refine (FT.out _ (H.out.below B)).mono ?_
          rintro e wa2 ⟨rfl, b⟩
          try clear c_g5 f_g5 a_g5 d_g5 e_g5
          replace g5 := g5.below b; have c_g5 := g5.cell; have f_g5 := g5.free; have a_g5 := fun o => (g5.alloc o).cell; have d_g5 := fun o o2 => ((g5.alloc o).alloc o2).cell; have e_g5 := fun o => (g5.alloc o).free; try clear c_g1 f_g1 a_g1 d_g1 e_g1
          replace g1 := g1.below b; have c_g1 := g1.cell; have f_g1 := g1.free; have a_g1 := fun o => (g1.alloc o).cell; have d_g1 := fun o o2 => ((g1.alloc o).alloc o2).cell; have e_g1 := fun o => (g1.alloc o).free; replace B := B.trans (b.mono B.size); clear b
          have hzz := B.size
          go_upto_region 7 with (fail)
          refine wp_gen (fun Wv => Bx Wv (wa2.heap.size) (50) (#[.int .i64 p, .int .u64 0]) ∧ Below wa2.heap.size wa2 Wv) ⟨((Bx.at_ (by simp))), ((Below.refl _ wa2).alloc (by simp <;> omega) _)⟩ ?_
          rintro wa3 ⟨g6, b⟩
          try clear c_g5 f_g5 a_g5 d_g5 e_g5
          replace g5 := g5.below b; have c_g5 := g5.cell; have f_g5 := g5.free; have a_g5 := fun o => (g5.alloc o).cell; have d_g5 := fun o o2 => ((g5.alloc o).alloc o2).cell; have e_g5 := fun o => (g5.alloc o).free; try clear c_g1 f_g1 a_g1 d_g1 e_g1
          replace g1 := g1.below b; have c_g1 := g1.cell; have f_g1 := g1.free; have a_g1 := fun o => (g1.alloc o).cell; have d_g1 := fun o o2 => ((g1.alloc o).alloc o2).cell; have e_g1 := fun o => (g1.alloc o).free; replace B := B.trans (b.mono B.size); clear b
          have c_g6 := g6.cell; have f_g6 := g6.free; have a_g6 := fun o => (g6.alloc o).cell; have d_g6 := fun o o2 => ((g6.alloc o).alloc o2).cell; have e_g6 := fun o => (g6.alloc o).free
          go_wp2_with fail
          refine (RT.out _ (H.out.below B)).mono ?_
          rintro e wa4 ⟨rfl, b⟩
          try clear c_g5 f_g5 a_g5 d_g5 e_g5
          replace g5 := g5.below b; have c_g5 := g5.cell; have f_g5 := g5.free; have a_g5 := fun o => (g5.alloc o).cell; have d_g5 := fun o o2 => ((g5.alloc o).alloc o2).cell; have e_g5 := fun o => (g5.alloc o).free; try clear c_g1 f_g1 a_g1 d_g1 e_g1
          replace g1 := g1.below b; have c_g1 := g1.cell; have f_g1 := g1.free; have a_g1 := fun o => (g1.alloc o).cell; have d_g1 := fun o o2 => ((g1.alloc o).alloc o2).cell; have e_g1 := fun o => (g1.alloc o).free; try clear c_g6 f_g6 a_g6 d_g6 e_g6
          replace g6 := g6.below b; have c_g6 := g6.cell; have f_g6 := g6.free; have a_g6 := fun o => (g6.alloc o).cell; have d_g6 := fun o o2 => ((g6.alloc o).alloc o2).cell; have e_g6 := fun o => (g6.alloc o).free; replace B := B.trans (b.mono B.size); clear b
          go_wp2
          go_ret2
          exact ⟨_, rfl, OwnE.nil _ _, B⟩
        case pos =>
          subst hd0
          subst hre
          have rt : Rt l := by obtain ⟨k, a, nn, q, i, b, t, kd', x', _, _, fd⟩ := Fd.of he.symm; exact fd.hd.rt
          have hrb : 0 ≤ a9 ∧ a9 ≤ 1000000 := by
            obtain ⟨_, k9, s9, _, _, _, hu9, _, hr9, e9⟩ := resErr_ok hd.symm
            rw [ha9, e9]
            have := hr9.2.2.2 hu9
            omega
          have hE : E = [(p, UInt64.ofNat a9.toNat)] := by rw [hx]; unfold riL; rw [if_pos hr.symm, ← hp, ha9]; rfl
          obtain ⟨x9, hx9⟩ : ∃ x, x = UInt64.ofNat a9.toNat := ⟨_, rfl⟩
          have hax : a9 = (x9.toNat : Int) := by
            rw [hx9, UInt64.toNat_ofNat_of_lt' (by show a9.toNat < 18446744073709551616; omega)]; omega
          rw [← hx9] at hE
          subst hE; subst hax
          have hw9 : IntKind.u64.wrap (x9.toNat : Int) = (x9.toNat : Int) := by show (x9.toNat : Int) % 18446744073709551616 = _; omega
          clear hx hr hx0 h hp hkd he h3 hd ha9 rt hrb hx9
          have g5 := gb
          clear gb
          go_enter Try.func17, Try.ntmps17
          go_upto_region 1 with (fail)
          refine wp_gen (fun Wv => Bx Wv (w.heap.size) (35) (#[.int .i64 sl, .int .i64 g]) ∧ Below w.heap.size w Wv) ⟨((Bx.at_ (by simp))), ((Below.refl _ w).alloc (by simp <;> omega) _)⟩ ?_
          rintro wa1 ⟨g1, b⟩
          try clear c_g5 f_g5 a_g5 d_g5 e_g5
          replace g5 := g5.below b; have c_g5 := g5.cell; have f_g5 := g5.free; have a_g5 := fun o => (g5.alloc o).cell; have d_g5 := fun o o2 => ((g5.alloc o).alloc o2).cell; have e_g5 := fun o => (g5.alloc o).free; replace B := B.trans (b.mono B.size); clear b
          have c_g1 := g1.cell; have f_g1 := g1.free; have a_g1 := fun o => (g1.alloc o).cell; have d_g1 := fun o o2 => ((g1.alloc o).alloc o2).cell; have e_g1 := fun o => (g1.alloc o).free
          go_wp2_with fail
          refine (FT.out _ (H.out.below B)).mono ?_
          rintro e wa2 ⟨rfl, b⟩
          try clear c_g5 f_g5 a_g5 d_g5 e_g5
          replace g5 := g5.below b; have c_g5 := g5.cell; have f_g5 := g5.free; have a_g5 := fun o => (g5.alloc o).cell; have d_g5 := fun o o2 => ((g5.alloc o).alloc o2).cell; have e_g5 := fun o => (g5.alloc o).free; try clear c_g1 f_g1 a_g1 d_g1 e_g1
          replace g1 := g1.below b; have c_g1 := g1.cell; have f_g1 := g1.free; have a_g1 := fun o => (g1.alloc o).cell; have d_g1 := fun o o2 => ((g1.alloc o).alloc o2).cell; have e_g1 := fun o => (g1.alloc o).free; replace B := B.trans (b.mono B.size); clear b
          have hzz := B.size
          go_upto_region 7 with (fail)
          refine wp_gen (fun Wv => Bx Wv (wa2.heap.size) (50) (#[.int .i64 p, .int .u64 0]) ∧ Below wa2.heap.size wa2 Wv) ⟨((Bx.at_ (by simp))), ((Below.refl _ wa2).alloc (by simp <;> omega) _)⟩ ?_
          rintro wa3 ⟨g6, b⟩
          try clear c_g5 f_g5 a_g5 d_g5 e_g5
          replace g5 := g5.below b; have c_g5 := g5.cell; have f_g5 := g5.free; have a_g5 := fun o => (g5.alloc o).cell; have d_g5 := fun o o2 => ((g5.alloc o).alloc o2).cell; have e_g5 := fun o => (g5.alloc o).free; try clear c_g1 f_g1 a_g1 d_g1 e_g1
          replace g1 := g1.below b; have c_g1 := g1.cell; have f_g1 := g1.free; have a_g1 := fun o => (g1.alloc o).cell; have d_g1 := fun o o2 => ((g1.alloc o).alloc o2).cell; have e_g1 := fun o => (g1.alloc o).free; replace B := B.trans (b.mono B.size); clear b
          have c_g6 := g6.cell; have f_g6 := g6.free; have a_g6 := fun o => (g6.alloc o).cell; have d_g6 := fun o o2 => ((g6.alloc o).alloc o2).cell; have e_g6 := fun o => (g6.alloc o).free
          go_wp2_with fail
          refine (RT.out _ (H.out.below B)).mono ?_
          rintro e wa4 ⟨rfl, b⟩
          try clear c_g5 f_g5 a_g5 d_g5 e_g5
          replace g5 := g5.below b; have c_g5 := g5.cell; have f_g5 := g5.free; have a_g5 := fun o => (g5.alloc o).cell; have d_g5 := fun o o2 => ((g5.alloc o).alloc o2).cell; have e_g5 := fun o => (g5.alloc o).free; try clear c_g1 f_g1 a_g1 d_g1 e_g1
          replace g1 := g1.below b; have c_g1 := g1.cell; have f_g1 := g1.free; have a_g1 := fun o => (g1.alloc o).cell; have d_g1 := fun o o2 => ((g1.alloc o).alloc o2).cell; have e_g1 := fun o => (g1.alloc o).free; try clear c_g6 f_g6 a_g6 d_g6 e_g6
          replace g6 := g6.below b; have c_g6 := g6.cell; have f_g6 := g6.free; have a_g6 := fun o => (g6.alloc o).cell; have d_g6 := fun o o2 => ((g6.alloc o).alloc o2).cell; have e_g6 := fun o => (g6.alloc o).free; replace B := B.trans (b.mono B.size); clear b
          have hp6 := g6.lt
          have hz6 : w.heap.size ≤ wa2.heap.size := hzz
          go_upto_region 12 with (fail)
          refine wp_gen (fun V => Bx V wa2.heap.size 50 #[.int .i64 p, .int .u64 x9.toNat] ∧ Below w.heap.size w V) ⟨by have := g6.set (i := 1) (.int .u64 x9.toNat); simpa using this, B.setCell (p := ⟨wa2.heap.size, 1, none⟩) hz6 _⟩ ?_
          clear g6 B c_g6 f_g6 a_g6 d_g6 e_g6 g5 c_g5 f_g5 a_g5 d_g5 e_g5 g1 c_g1 f_g1 a_g1 d_g1 e_g1
          rintro V ⟨g6, B⟩
          have c_g6 := g6.cell
          go_wp2
          go_ret2
          exact ⟨_, rfl, ent_own (x := x9) B.size, B.alloc B.size _⟩
set_option maxRecDepth 100000 in
set_option maxHeartbeats 4000000 in
theorem Root24_any (v : Value) (l : List UInt64) (sl g n : Int) (E : List (Int × UInt64)) (s1 s2 r : Int) (hx : E = oiL l sl g n) (hs1 : s1 = oiS l sl g n) (hs2 : s2 = oiG l sl g n) (hr : r = oiE l sl g n) (w : World) (h : Words w v l) :
    Calls Try.prog 18 #[v, .agg #[.int .i64 sl, .int .i64 g], .int .i64 n] w fun e w' => ∃ y, e = .returned (.tuple #[y, .agg #[.int .i64 s1, .int .i64 s2], .int .i64 r]) ∧ OwnE w' w.heap.size y E ∧ Below w.heap.size w w' := by
  have B : Below w.heap.size w w := Below.refl _ _
  have H := Lib.hid h
  obtain ⟨p, hp⟩ : ∃ p, p = kiAt l sl g n := ⟨_, rfl⟩
  obtain ⟨kd, hkd⟩ : ∃ k, k = kiK l sl g n := ⟨_, rfl⟩
  obtain ⟨e0, he⟩ : ∃ e, e = kiErr l sl g n := ⟨_, rfl⟩
  have FT := Lib.hid (fun w h => find24_any v l sl g n p kd e0 hp hkd he w h)
  have hx0 : r ≠ 0 → E = [] ∧ s1 = 0 ∧ s2 = 0 := fun h0 => ⟨by rw [hx, oiL, if_neg (by rw [← hr]; exact h0)], by rw [hs1, oiS, if_neg (by rw [← hr]; exact h0)], by rw [hs2, oiG, if_neg (by rw [← hr]; exact h0)]⟩
  by_cases h0 : e0 = 0
  case neg =>
    have hre : r = e0 := by rw [hr, oiE, ← he, if_neg h0]
    obtain ⟨rfl, rfl, rfl⟩ := hx0 (by rw [hre]; exact h0)
    subst hre
    have n1 : (r != 0) = true := by rw [bne_iff_ne]; exact h0
    clear hx hs1 hs2 hr hx0 h hp hkd he h0
    go_enter Try.func18, Try.ntmps18
    go_upto_region 1 with (fail)
    refine wp_gen (fun Wv => Bx Wv (w.heap.size) (35) (#[.int .i64 sl, .int .i64 g]) ∧ Bx Wv (w.heap.size + 1) (35) (#[.int .i64 0, .int .i64 0]) ∧ Below w.heap.size w Wv) ⟨(((Bx.at_ (by simp)).alloc _)), ((Bx.at_ (by simp))), (((Below.refl _ w).alloc (by simp <;> omega) _).alloc (by simp <;> omega) _)⟩ ?_
    rintro wa1 ⟨g1, g2, b⟩
    replace B := B.trans (b.mono B.size); clear b
    have c_g1 := g1.cell; have f_g1 := g1.free; have a_g1 := fun o => (g1.alloc o).cell; have d_g1 := fun o o2 => ((g1.alloc o).alloc o2).cell; have e_g1 := fun o => (g1.alloc o).free
    have c_g2 := g2.cell; have f_g2 := g2.free; have a_g2 := fun o => (g2.alloc o).cell; have d_g2 := fun o o2 => ((g2.alloc o).alloc o2).cell; have e_g2 := fun o => (g2.alloc o).free
    go_wp2_with fail
    refine (FT.out _ (H.out.below B)).mono ?_
    rintro e wa2 ⟨rfl, b⟩
    try clear c_g1 f_g1 a_g1 d_g1 e_g1
    replace g1 := g1.below b; have c_g1 := g1.cell; have f_g1 := g1.free; have a_g1 := fun o => (g1.alloc o).cell; have d_g1 := fun o o2 => ((g1.alloc o).alloc o2).cell; have e_g1 := fun o => (g1.alloc o).free; try clear c_g2 f_g2 a_g2 d_g2 e_g2
    replace g2 := g2.below b; have c_g2 := g2.cell; have f_g2 := g2.free; have a_g2 := fun o => (g2.alloc o).cell; have d_g2 := fun o o2 => ((g2.alloc o).alloc o2).cell; have e_g2 := fun o => (g2.alloc o).free; replace B := B.trans (b.mono B.size); clear b
    go_wp2
    refine bodyPost_ret (v := .tuple #[.slice none 0 0, .agg #[.int .i64 0, .int .i64 0], .int .i64 r]) (by simp [results, Try.results18, go_sem, c_g2, f_g2]) rfl ?_
    refine ⟨_, rfl, OwnE.nil _ _, ?_⟩
    (repeat (first | refine Below.setCell ?_ (by first | exact Nat.le_refl _ | (simp <;> omega)) _ | refine Below.alloc ?_ (by first | exact B.size | (have := B.size; simp <;> omega)) _)); exact B
  case pos =>
    subst h0
    by_cases h3 : kd.toNat = 3
    case neg =>
      have hre : r = 42 := by rw [hr, oiE, if_pos he.symm, ← hkd, if_neg h3]
      obtain ⟨rfl, rfl, rfl⟩ := hx0 (by rw [hre]; decide)
      subst hre
      have k3 : ((kd.toNat : Int) != 3) = true := by rw [bne_iff_ne]; omega
      clear hx hs1 hs2 hr hx0 h hp hkd he h3
      go_enter Try.func18, Try.ntmps18
      go_upto_region 1 with (fail)
      refine wp_gen (fun Wv => Bx Wv (w.heap.size) (35) (#[.int .i64 sl, .int .i64 g]) ∧ Bx Wv (w.heap.size + 1) (35) (#[.int .i64 0, .int .i64 0]) ∧ Below w.heap.size w Wv) ⟨(((Bx.at_ (by simp)).alloc _)), ((Bx.at_ (by simp))), (((Below.refl _ w).alloc (by simp <;> omega) _).alloc (by simp <;> omega) _)⟩ ?_
      rintro wa1 ⟨g1, g2, b⟩
      replace B := B.trans (b.mono B.size); clear b
      have c_g1 := g1.cell; have f_g1 := g1.free; have a_g1 := fun o => (g1.alloc o).cell; have d_g1 := fun o o2 => ((g1.alloc o).alloc o2).cell; have e_g1 := fun o => (g1.alloc o).free
      have c_g2 := g2.cell; have f_g2 := g2.free; have a_g2 := fun o => (g2.alloc o).cell; have d_g2 := fun o o2 => ((g2.alloc o).alloc o2).cell; have e_g2 := fun o => (g2.alloc o).free
      go_wp2_with fail
      refine (FT.out _ (H.out.below B)).mono ?_
      rintro e wa2 ⟨rfl, b⟩
      try clear c_g1 f_g1 a_g1 d_g1 e_g1
      replace g1 := g1.below b; have c_g1 := g1.cell; have f_g1 := g1.free; have a_g1 := fun o => (g1.alloc o).cell; have d_g1 := fun o o2 => ((g1.alloc o).alloc o2).cell; have e_g1 := fun o => (g1.alloc o).free; try clear c_g2 f_g2 a_g2 d_g2 e_g2
      replace g2 := g2.below b; have c_g2 := g2.cell; have f_g2 := g2.free; have a_g2 := fun o => (g2.alloc o).cell; have d_g2 := fun o o2 => ((g2.alloc o).alloc o2).cell; have e_g2 := fun o => (g2.alloc o).free; replace B := B.trans (b.mono B.size); clear b
      go_wp2
      refine bodyPost_ret (v := .tuple #[.slice none 0 0, .agg #[.int .i64 0, .int .i64 0], .int .i64 42]) (by simp [results, Try.results18, go_sem, c_g2, f_g2]) rfl ?_
      refine ⟨_, rfl, OwnE.nil _ _, ?_⟩
      (repeat (first | refine Below.setCell ?_ (by first | exact Nat.le_refl _ | (simp <;> omega)) _ | refine Below.alloc ?_ (by first | exact B.size | (have := B.size; simp <;> omega)) _)); exact B
    case pos =>
      have k3 : ((kd.toNat : Int) != 3) = false := by rw [bne_eq_false_iff_eq]; omega
      obtain ⟨k, a, nn, q, i, b, t, kd', x, rfl, rfl, fd⟩ := Fd.of he.symm
      have hpp : p = (a : Int) + 2 + (i : Int) := by rw [hp, fd.hAt]; omega
      have HX := Lib.hid fd.hx
      have hkk : kd = kd' := by rw [hkd, fd.hK]
      have hre : r = if x = 0 then 6 else L18.newErr l x.toNat := by rw [hr, oiE, if_pos he.symm, ← hkd, if_pos h3, fd.hW]
      subst hpp
      by_cases hx00 : x = 0
      · have hre6 : r = 6 := by rw [hre, if_pos hx00]
        obtain ⟨rfl, rfl, rfl⟩ := hx0 (by rw [hre6]; decide)
        subst hre6
        have z0 : ((x.toNat : Int) == 0) = true := by rw [hx00]; rfl
        clear hx hs1 hs2 hr hx0 h hp hkd he h3 fd hre hx00 hkk
        go_enter Try.func18, Try.ntmps18
        go_upto_region 1 with (fail)
        refine wp_gen (fun Wv => Bx Wv (w.heap.size) (35) (#[.int .i64 k, .int .i64 g]) ∧ Bx Wv (w.heap.size + 1) (35) (#[.int .i64 0, .int .i64 0]) ∧ Below w.heap.size w Wv) ⟨(((Bx.at_ (by simp)).alloc _)), ((Bx.at_ (by simp))), (((Below.refl _ w).alloc (by simp <;> omega) _).alloc (by simp <;> omega) _)⟩ ?_
        rintro wa1 ⟨g1, g2, b⟩
        replace B := B.trans (b.mono B.size); clear b
        have c_g1 := g1.cell; have f_g1 := g1.free; have a_g1 := fun o => (g1.alloc o).cell; have d_g1 := fun o o2 => ((g1.alloc o).alloc o2).cell; have e_g1 := fun o => (g1.alloc o).free
        have c_g2 := g2.cell; have f_g2 := g2.free; have a_g2 := fun o => (g2.alloc o).cell; have d_g2 := fun o o2 => ((g2.alloc o).alloc o2).cell; have e_g2 := fun o => (g2.alloc o).free
        go_wp2_with fail
        refine (FT.out _ (H.out.below B)).mono ?_
        rintro e wa2 ⟨rfl, b⟩
        try clear c_g1 f_g1 a_g1 d_g1 e_g1
        replace g1 := g1.below b; have c_g1 := g1.cell; have f_g1 := g1.free; have a_g1 := fun o => (g1.alloc o).cell; have d_g1 := fun o o2 => ((g1.alloc o).alloc o2).cell; have e_g1 := fun o => (g1.alloc o).free; try clear c_g2 f_g2 a_g2 d_g2 e_g2
        replace g2 := g2.below b; have c_g2 := g2.cell; have f_g2 := g2.free; have a_g2 := fun o => (g2.alloc o).cell; have d_g2 := fun o o2 => ((g2.alloc o).alloc o2).cell; have e_g2 := fun o => (g2.alloc o).free; replace B := B.trans (b.mono B.size); clear b
        obtain ⟨ad, x2, ia, m0, hx2⟩ := (H.out.below B).at_ (P := Try.prog) Try.underlying22 one_u64 (k := a + 2 + i) (List.getElem?_eq_some_iff.1 HX.out).1
        obtain rfl : x2 = x := by have := hx2.out; rw [HX.out] at this; injection this with e; exact e.symm
        have ia2 : ∀ W, (Instr.indexAt 22 v (.int .i64 ((a : Int) + 2 + (i : Int)))).run Try.prog W = .ok (.pointer (some ad)) W := ia
        clear hx2 ia
        go_wp2
        refine bodyPost_ret (v := .tuple #[.slice none 0 0, .agg #[.int .i64 0, .int .i64 0], .int .i64 6]) (by simp [results, Try.results18, go_sem, c_g2, f_g2]) rfl ?_
        refine ⟨_, rfl, OwnE.nil _ _, ?_⟩
        (repeat (first | refine Below.setCell ?_ (by first | exact Nat.le_refl _ | (simp <;> omega)) _ | refine Below.alloc ?_ (by first | exact B.size | (have := B.size; simp <;> omega)) _)); exact B
      · have z0 : ((x.toNat : Int) == 0) = false := by rw [beq_eq_false_iff_ne]; intro e; exact hx00 (UInt64.toNat.inj (by simp; omega))
        obtain ⟨hnc, hxb⟩ := new_cases fd (by rw [← hkk]; exact h3) hx00
        obtain ⟨e9, he9⟩ : ∃ e, e = L18.newErr l x.toNat := ⟨_, rfl⟩
        obtain ⟨s9, hs9⟩ : ∃ e, e = newSlot l x.toNat := ⟨_, rfl⟩
        obtain ⟨g9, hg9⟩ : ∃ e, e = newGen l x.toNat := ⟨_, rfl⟩
        obtain ⟨a9, ha9⟩ : ∃ e, e = newAt l x.toNat := ⟨_, rfl⟩
        obtain ⟨v9, hv9⟩ : ∃ e, e = newVal l x.toNat := ⟨_, rfl⟩
        have NT := Lib.hid (fun w h => New18_any v l x.toNat s9 g9 a9 v9 e9 hs9 hg9 ha9 hv9 he9 w h)
        have hre9 : r = e9 := by rw [hre, if_neg hx00, he9]
        have hw9 : IntKind.i64.wrap (x.toNat : Int) = (x.toNat : Int) := IntWalk.i64_in _ (by omega)
        rw [← he9] at hnc
        by_cases he90 : e9 = 0
        case neg =>
          have he23 : e9 = 23 := hnc.resolve_left he90
          obtain ⟨rfl, rfl, rfl⟩ := hx0 (by rw [hre9]; exact he90)
          subst hre9; subst he23
          clear hx hs1 hs2 hr hx0 h hp hkd he h3 fd hre hx00 hkk he9 hs9 hg9 ha9 hv9 hnc he90
          go_enter Try.func18, Try.ntmps18
          go_upto_region 1 with (fail)
          refine wp_gen (fun Wv => Bx Wv (w.heap.size) (35) (#[.int .i64 k, .int .i64 g]) ∧ Bx Wv (w.heap.size + 1) (35) (#[.int .i64 0, .int .i64 0]) ∧ Below w.heap.size w Wv) ⟨(((Bx.at_ (by simp)).alloc _)), ((Bx.at_ (by simp))), (((Below.refl _ w).alloc (by simp <;> omega) _).alloc (by simp <;> omega) _)⟩ ?_
          rintro wa1 ⟨g1, g2, b⟩
          replace B := B.trans (b.mono B.size); clear b
          have c_g1 := g1.cell; have f_g1 := g1.free; have a_g1 := fun o => (g1.alloc o).cell; have d_g1 := fun o o2 => ((g1.alloc o).alloc o2).cell; have e_g1 := fun o => (g1.alloc o).free
          have c_g2 := g2.cell; have f_g2 := g2.free; have a_g2 := fun o => (g2.alloc o).cell; have d_g2 := fun o o2 => ((g2.alloc o).alloc o2).cell; have e_g2 := fun o => (g2.alloc o).free
          go_wp2_with fail
          refine (FT.out _ (H.out.below B)).mono ?_
          rintro e wa2 ⟨rfl, b⟩
          try clear c_g1 f_g1 a_g1 d_g1 e_g1
          replace g1 := g1.below b; have c_g1 := g1.cell; have f_g1 := g1.free; have a_g1 := fun o => (g1.alloc o).cell; have d_g1 := fun o o2 => ((g1.alloc o).alloc o2).cell; have e_g1 := fun o => (g1.alloc o).free; try clear c_g2 f_g2 a_g2 d_g2 e_g2
          replace g2 := g2.below b; have c_g2 := g2.cell; have f_g2 := g2.free; have a_g2 := fun o => (g2.alloc o).cell; have d_g2 := fun o o2 => ((g2.alloc o).alloc o2).cell; have e_g2 := fun o => (g2.alloc o).free; replace B := B.trans (b.mono B.size); clear b
          obtain ⟨ad, x2, ia, m0, hx2⟩ := (H.out.below B).at_ (P := Try.prog) Try.underlying22 one_u64 (k := a + 2 + i) (List.getElem?_eq_some_iff.1 HX.out).1
          obtain rfl : x2 = x := by have := hx2.out; rw [HX.out] at this; injection this with e; exact e.symm
          have ia2 : ∀ W, (Instr.indexAt 22 v (.int .i64 ((a : Int) + 2 + (i : Int)))).run Try.prog W = .ok (.pointer (some ad)) W := ia
          clear hx2 ia
          go_wp2_with fail
          refine (NT.out _ (H.out.below B)).mono ?_
          rintro e wa3 ⟨rfl, b⟩
          try clear c_g2 f_g2 a_g2 d_g2 e_g2
          replace g2 := g2.below b; have c_g2 := g2.cell; have f_g2 := g2.free; have a_g2 := fun o => (g2.alloc o).cell; have d_g2 := fun o o2 => ((g2.alloc o).alloc o2).cell; have e_g2 := fun o => (g2.alloc o).free; replace B := B.trans (b.mono B.size); clear b
          have hp2 := g2.lt
          go_upto_region 9 with (fail)
          refine wp_gen (fun Wv => Below wa3.heap.size wa3 Wv) (((Below.refl _ wa3).alloc (by simp <;> omega) _).alloc (by simp <;> omega) _) ?_
          intro wa4 b
          try clear c_g2 f_g2 a_g2 d_g2 e_g2
          replace g2 := g2.below b; have c_g2 := g2.cell; have f_g2 := g2.free; have a_g2 := fun o => (g2.alloc o).cell; have d_g2 := fun o o2 => ((g2.alloc o).alloc o2).cell; have e_g2 := fun o => (g2.alloc o).free; replace B := B.trans (b.mono B.size); clear b
          go_wp2
          refine bodyPost_ret (v := .tuple #[.slice none 0 0, .agg #[.int .i64 0, .int .i64 0], .int .i64 23]) (by simp [results, Try.results18, go_sem, c_g2, f_g2]) rfl ?_
          refine ⟨_, rfl, OwnE.nil _ _, ?_⟩
          (repeat (first | refine Below.setCell ?_ (by first | exact Nat.le_refl _ | (simp <;> omega)) _ | refine Below.alloc ?_ (by first | exact B.size | (have := B.size; simp <;> omega)) _)); exact B
        case pos =>
          subst he90
          subst hre9
          have hE : E = [(a9, v9)] := by rw [hx, oiL, if_pos hr.symm, fd.hW, ha9, hv9]
          have hS : s1 = s9 := by rw [hs1, oiS, if_pos hr.symm, fd.hW, hs9]
          have hG : s2 = g9 := by rw [hs2, oiG, if_pos hr.symm, fd.hW, hg9]
          subst hE; subst hS; subst hG
          clear hx hs1 hs2 hr hx0 h hp hkd he h3 fd hre hx00 hkk he9 hs9 hg9 ha9 hv9 hnc
          go_enter Try.func18, Try.ntmps18
          go_upto_region 1 with (fail)
          refine wp_gen (fun Wv => Bx Wv (w.heap.size) (35) (#[.int .i64 k, .int .i64 g]) ∧ Bx Wv (w.heap.size + 1) (35) (#[.int .i64 0, .int .i64 0]) ∧ Below w.heap.size w Wv) ⟨(((Bx.at_ (by simp)).alloc _)), ((Bx.at_ (by simp))), (((Below.refl _ w).alloc (by simp <;> omega) _).alloc (by simp <;> omega) _)⟩ ?_
          rintro wa1 ⟨g1, g2, b⟩
          replace B := B.trans (b.mono B.size); clear b
          have c_g1 := g1.cell; have f_g1 := g1.free; have a_g1 := fun o => (g1.alloc o).cell; have d_g1 := fun o o2 => ((g1.alloc o).alloc o2).cell; have e_g1 := fun o => (g1.alloc o).free
          have c_g2 := g2.cell; have f_g2 := g2.free; have a_g2 := fun o => (g2.alloc o).cell; have d_g2 := fun o o2 => ((g2.alloc o).alloc o2).cell; have e_g2 := fun o => (g2.alloc o).free
          go_wp2_with fail
          refine (FT.out _ (H.out.below B)).mono ?_
          rintro e wa2 ⟨rfl, b⟩
          try clear c_g1 f_g1 a_g1 d_g1 e_g1
          replace g1 := g1.below b; have c_g1 := g1.cell; have f_g1 := g1.free; have a_g1 := fun o => (g1.alloc o).cell; have d_g1 := fun o o2 => ((g1.alloc o).alloc o2).cell; have e_g1 := fun o => (g1.alloc o).free; try clear c_g2 f_g2 a_g2 d_g2 e_g2
          replace g2 := g2.below b; have c_g2 := g2.cell; have f_g2 := g2.free; have a_g2 := fun o => (g2.alloc o).cell; have d_g2 := fun o o2 => ((g2.alloc o).alloc o2).cell; have e_g2 := fun o => (g2.alloc o).free; replace B := B.trans (b.mono B.size); clear b
          obtain ⟨ad, x2, ia, m0, hx2⟩ := (H.out.below B).at_ (P := Try.prog) Try.underlying22 one_u64 (k := a + 2 + i) (List.getElem?_eq_some_iff.1 HX.out).1
          obtain rfl : x2 = x := by have := hx2.out; rw [HX.out] at this; injection this with e; exact e.symm
          have ia2 : ∀ W, (Instr.indexAt 22 v (.int .i64 ((a : Int) + 2 + (i : Int)))).run Try.prog W = .ok (.pointer (some ad)) W := ia
          clear hx2 ia
          go_wp2_with fail
          refine (NT.out _ (H.out.below B)).mono ?_
          rintro e wa3 ⟨rfl, b⟩
          try clear c_g2 f_g2 a_g2 d_g2 e_g2
          replace g2 := g2.below b; have c_g2 := g2.cell; have f_g2 := g2.free; have a_g2 := fun o => (g2.alloc o).cell; have d_g2 := fun o o2 => ((g2.alloc o).alloc o2).cell; have e_g2 := fun o => (g2.alloc o).free; replace B := B.trans (b.mono B.size); clear b
          have hp2 := g2.lt
          go_upto_region 9 with (fail)
          refine wp_gen (fun Wv => Bx Wv (wa3.heap.size) (35) (#[.int .i64 s1, .int .i64 s2]) ∧ Bx Wv (wa3.heap.size + 1) (50) (#[.int .i64 a9, .int .u64 v9.toNat]) ∧ Below wa3.heap.size wa3 Wv) ⟨(((Bx.at_ (by simp)).alloc _)), ((Bx.at_ (by simp))), (((Below.refl _ wa3).alloc (by simp <;> omega) _).alloc (by simp <;> omega) _)⟩ ?_
          rintro wa4 ⟨g7, g8, b⟩
          try clear c_g2 f_g2 a_g2 d_g2 e_g2
          replace g2 := g2.below b; have c_g2 := g2.cell; have f_g2 := g2.free; have a_g2 := fun o => (g2.alloc o).cell; have d_g2 := fun o o2 => ((g2.alloc o).alloc o2).cell; have e_g2 := fun o => (g2.alloc o).free; replace B := B.trans (b.mono B.size); clear b
          have c_g7 := g7.cell; have f_g7 := g7.free; have a_g7 := fun o => (g7.alloc o).cell; have d_g7 := fun o o2 => ((g7.alloc o).alloc o2).cell; have e_g7 := fun o => (g7.alloc o).free
          have c_g8 := g8.cell; have f_g8 := g8.free; have a_g8 := fun o => (g8.alloc o).cell; have d_g8 := fun o o2 => ((g8.alloc o).alloc o2).cell; have e_g8 := fun o => (g8.alloc o).free
          go_upto_region 11 with (fail)
          have hb4 := B.size
          have hne2 : w.heap.size + 1 ≠ wa3.heap.size := by omega
          clear a_g2 d_g2 e_g2 c_g2 f_g2 a_g7 d_g7 e_g7 f_g7 c_g7 a_g8 d_g8 e_g8 f_g8 c_g8
          have c_g7 := fun x : Fut _ => (g7.below x.h).cell
          have c_g8 := fun x : Fut _ => (g8.below x.h).cell
          refine wp_region_fblock 4 1 (fun p => .slice (some ⟨p, 0, none⟩) 1 1) 50 (#[.int .i64 a9, .int .u64 v9.toNat]) (mk_sl 1) (by kernel_rfl) (by kernel_rfl) (by kernel_rfl) ?_
          intro gg pq eq
          simp only [List.take_succ_cons, List.take_zero, List.drop_succ_cons, List.drop_zero]
          iterate 1 (refine wpH_read0 rfl rfl ?_; go_big_quiet_step (fail); refine wpQuiet_nil ?_)
          refine wpH_new rfl rfl (TS.block (Instr.buildSlice 30 1 #[(0, .agg #[.int .i64 a9, .int .u64 v9.toNat])]) (by simp [execOp, Act.eval]) (fun W => by simp [go_sem])) ?_
          rw [eq]
          simp only [Act.put, List.setIfInBounds_toArray, List.set_cons_zero, List.set_cons_succ]
          iterate 2 (refine wpH_read0 rfl rfl ?_; go_big_quiet_step (fail); refine wpQuiet_nil ?_)
          refine wpH_nil ?_
          intro W1 bW gq hpq
          have g3 := g2.below bW
          replace B := B.trans (bW.mono hb4)
          have c_g3 := g3.cell; have f_g3 := g3.free
          have HGQ := Lib.hid (And.intro gq (And.intro g3 B))
          clear c_g7 c_g8 g2 gq B
          go_wp2
          refine bodyPost_ret (v := .tuple #[.slice (some ⟨pq, 0, none⟩) 1 1, .agg #[.int .i64 s1, .int .i64 s2], .int .i64 0]) (by simp [results, Try.results18, go_sem, c_g3, f_g3]) rfl ?_
          obtain ⟨gq, g3, B⟩ := HGQ.out
          refine ⟨_, rfl, own_set (own_set (ent_bx gq (by omega)) g3 (by decide)) (g3.set _) (by decide), ?_⟩
          exact (B.setCell (p := ⟨w.heap.size + 1, 0, none⟩) (by simp) _).setCell (p := ⟨w.heap.size + 1, 1, none⟩) (by simp) _
end Go.Proofs.Ytmbokdnndlnjkaa
namespace Go.Proofs.Ytmbokdnndlnjkaa
open Go.RowKit L01 L02 L05 L06 L07 L13 L14 L15 L18 L19 L20
set_option maxRecDepth 100000 in
set_option maxHeartbeats 2000000 in
theorem open23_any (v : Value) (l : List UInt64) (sl g : Int) (p r : Int) (hp : p = atI l sl g) (hr : r = askI l sl g) (w : World) (h : Words w v l) :
    Calls Try.prog 72 #[v, .agg #[.int .i64 sl, .int .i64 g]] w fun e w' => e = .returned (.tuple #[.int .i64 p, .int .i64 r]) ∧ Below w.heap.size w w' := by
  have B : Below w.heap.size w w := Below.refl _ _
  have H := Lib.hid h
  obtain ⟨c, hc⟩ : ∃ c, c = chk19 l := ⟨_, rfl⟩
  have CK := Lib.hid (fun w h => Check19_any v l c hc w h)
  by_cases h0 : c = 0
  case neg =>
    have hra : r = c := by rw [hr, askI, if_neg (by rw [← hc]; exact h0), hc]
    obtain rfl : p = 0 := by rw [hp, atI, if_neg (by rw [← hr, hra]; exact h0)]
    subst hra
    have n1 : (r != 0) = true := by rw [bne_iff_ne]; exact h0
    clear hp hr h hc h0
    go_enter Try.func72, Try.ntmps72
    go_upto_region 1 with (fail)
    refine wp_gen (fun Wv => Bx Wv (w.heap.size) (35) (#[.int .i64 sl, .int .i64 g]) ∧ Below w.heap.size w Wv) ⟨((Bx.at_ (by simp))), ((Below.refl _ w).alloc (by simp <;> omega) _)⟩ ?_
    rintro wa1 ⟨g1, b⟩
    replace B := B.trans (b.mono B.size); clear b
    have c_g1 := g1.cell; have f_g1 := g1.free; have a_g1 := fun o => (g1.alloc o).cell; have d_g1 := fun o o2 => ((g1.alloc o).alloc o2).cell; have e_g1 := fun o => (g1.alloc o).free
    go_wp2_with fail
    refine (CK.out _ (H.out.below B)).mono ?_
    rintro e wa2 ⟨rfl, b⟩
    try clear c_g1 f_g1 a_g1 d_g1 e_g1
    replace g1 := g1.below b; have c_g1 := g1.cell; have f_g1 := g1.free; have a_g1 := fun o => (g1.alloc o).cell; have d_g1 := fun o o2 => ((g1.alloc o).alloc o2).cell; have e_g1 := fun o => (g1.alloc o).free; replace B := B.trans (b.mono B.size); clear b
    go_wp2
    go_ret2
    exact ⟨rfl, B⟩
  case pos =>
    subst h0
    obtain ⟨x, hx⟩ : ∃ x, x = res l sl g := ⟨_, rfl⟩
    have ha : askI l sl g = resErr l sl g := by rw [askI, if_pos hc.symm]
    have RT := Lib.hid (fun w h => Resolve_any v l sl g x r hx (by rw [hr, ha]) w h)
    obtain rfl : p = x := by
      rw [hp, hx, atI]
      by_cases h1 : askI l sl g = 0
      · rw [if_pos h1]
      · rw [if_neg h1, res, if_neg (by rw [← ha]; exact h1)]
    clear hp hr h hc hx ha
    go_enter Try.func72, Try.ntmps72
    go_upto_region 1 with (fail)
    refine wp_gen (fun Wv => Bx Wv (w.heap.size) (35) (#[.int .i64 sl, .int .i64 g]) ∧ Below w.heap.size w Wv) ⟨((Bx.at_ (by simp))), ((Below.refl _ w).alloc (by simp <;> omega) _)⟩ ?_
    rintro wa1 ⟨g1, b⟩
    replace B := B.trans (b.mono B.size); clear b
    have c_g1 := g1.cell; have f_g1 := g1.free; have a_g1 := fun o => (g1.alloc o).cell; have d_g1 := fun o o2 => ((g1.alloc o).alloc o2).cell; have e_g1 := fun o => (g1.alloc o).free
    go_wp2_with fail
    refine (CK.out _ (H.out.below B)).mono ?_
    rintro e wa2 ⟨rfl, b⟩
    try clear c_g1 f_g1 a_g1 d_g1 e_g1
    replace g1 := g1.below b; have c_g1 := g1.cell; have f_g1 := g1.free; have a_g1 := fun o => (g1.alloc o).cell; have d_g1 := fun o o2 => ((g1.alloc o).alloc o2).cell; have e_g1 := fun o => (g1.alloc o).free; replace B := B.trans (b.mono B.size); clear b
    go_wp2_with fail
    refine (RT.out _ (H.out.below B)).mono ?_
    rintro e wa3 ⟨rfl, b⟩
    try clear c_g1 f_g1 a_g1 d_g1 e_g1
    replace g1 := g1.below b; have c_g1 := g1.cell; have f_g1 := g1.free; have a_g1 := fun o => (g1.alloc o).cell; have d_g1 := fun o o2 => ((g1.alloc o).alloc o2).cell; have e_g1 := fun o => (g1.alloc o).free; replace B := B.trans (b.mono B.size); clear b
    go_wp2
    go_ret2
    exact ⟨rfl, B⟩
end Go.Proofs.Ytmbokdnndlnjkaa
namespace Go.Proofs.Ytmbokdnndlnjkaa
open Go.RowKit L02 L13 L18 L20
/-- objects of the call's own, of which number n has its fields in block gf -/
def OwnF (w : World) (base : Nat) (v : Value) (L : List Ob) (n gf : Nat) : Prop := ∃ (vs : List Value) (nf cf : Nat), vs.length = L.length ∧ w.ownsRow base 135 2 v L.length (obC L vs) ∧ (∀ (i : Nat) x o, vs[i]? = some x → L[i]? = some o → OwnW w base 24 x o.fs) ∧
  (∀ (i j : Nat) x y, i ≠ j → vs[i]? = some x → vs[j]? = some y → x.ownBlock = none ∨ x.ownBlock ≠ y.ownBlock) ∧ vs[n]? = some (.slice (some ⟨gf, 0, none⟩) nf cf)
theorem OwnF.own {w : World} {base n gf : Nat} {v : Value} {L : List Ob} (h : OwnF w base v L n gf) : OwnO w base v L := by
  obtain ⟨vs, nf, cf, h1, h2, h4, h5, _⟩ := h; exact ⟨vs, h1, h2, h4, h5⟩
theorem OwnF.below {w w' : World} {base n gf : Nat} {v : Value} {L : List Ob} (h : OwnF w base v L n gf) (hb : Below w.heap.size w w') : OwnF w' base v L n gf := by
  obtain ⟨vs, nf, cf, h1, h2, h4, h5, h6⟩ := h; exact ⟨vs, nf, cf, h1, own_below h2 hb, fun i x l h5 h6 => (h4 i x l h5 h6).below hb, h5, h6⟩
theorem OwnF.mono {w : World} {base base' n gf : Nat} {v : Value} {L : List Ob} (h : OwnF w base v L n gf) (hb : base' ≤ base) : OwnF w base' v L n gf := by
  obtain ⟨vs, nf, cf, h1, h2, h4, h5, h6⟩ := h; exact ⟨vs, nf, cf, h1, own_mono h2 hb, fun i x l h5 h6 => own_mono (h4 i x l h5 h6) hb, h5, h6⟩
theorem OwnF.set {w : World} {B p i n gf : Nat} {v u : Value} {L : List Ob} {t : TypeId} {cs : Array Value} (h : OwnF w B v L n gf) (hg : Bx w p t cs) (h1 : 135 ≠ t) (h2 : 24 ≠ t) : OwnF (w.setCell ⟨p, i, none⟩ u) B v L n gf := by
  obtain ⟨vs, nf, cf, a1, a2, a4, a5, a6⟩ := h; exact ⟨vs, nf, cf, a1, own_set a2 hg h1, fun i x l h5 h6 => own_set (a4 i x l h5 h6) hg h2, a5, a6⟩
theorem OwnF.cell {w : World} {base n gf i : Nat} {v : Value} {L : List Ob} {o : Ob} {x : UInt64} (h : OwnF w base v L n gf) (ho : L[n]? = some o) (hx : o.fs[i]? = some x) :
    w.cell? ⟨gf, i, none⟩ = some (.int .u64 x.toNat) ∧ w.frozen? ⟨gf, i, none⟩ = false ∧ base ≤ gf ∧ gf < w.heap.size := by
  obtain ⟨vs, nf, cf, h1, h2, h4, h5, h6⟩ := h
  have hr := h4 n _ _ h6 ho
  have hi : i < o.fs.length := (List.getElem?_eq_some_iff.1 hx).1
  have hn : nf = o.fs.length := by
    obtain ⟨g', cap, cur, hv, _⟩ := own_form hr (by omega)
    injection hv
  subst hn
  have hl := hr.lt gf rfl
  have hc := Rd.cell (OwnW.rd hr) (j := i) (u := u64 x) (by rw [List.getElem?_map, hx]; rfl)
  refine ⟨?_, hr.frozenAt i, hl.1, hl.2⟩
  simpa [cellAt, u64] using hc
/-- where an own object lies; x the slice of its fields -/
theorem OwnO.at_ {w : World} {base : Nat} {v : Value} {L : List Ob} (h : OwnO w base v L) {n : Nat} {o : Ob} (ho : L[n]? = some o) (hf : 0 < o.fs.length) :
    ∃ b q gf nf cf, (∀ W, (Instr.indexAt 83 v (.int .i64 (n : Int))).run Try.prog W = .ok (.pointer (some ⟨b, q, none⟩)) W) ∧ w.cell? ⟨b, q, none⟩ = some (.int .i64 o.ty) ∧ w.cell? ⟨b, q + 1, none⟩ = some (.slice (some ⟨gf, 0, none⟩) nf cf) ∧ b < w.heap.size ∧ OwnF w base v L n gf ∧ nf = o.fs.length ∧
      ∀ i, i < o.fs.length → ∀ W, (Instr.indexAt 22 (.slice (some ⟨gf, 0, none⟩) nf cf) (.int .i64 (i : Int))).run Try.prog W = .ok (.pointer (some ⟨gf, i, none⟩)) W := by
  obtain ⟨vs, h1, h2, h4, h5⟩ := h
  have hk : n < L.length := (List.getElem?_eq_some_iff.1 ho).1
  have hv : vs[n]? = some vs[n] := List.getElem?_eq_getElem (by omega)
  have hr := h4 n _ _ hv ho
  obtain ⟨gf, cap, cur, hvv, _⟩ := own_form hr hf
  have hix := fun W => Rd.ixN (P := Try.prog) (Rd.of_own h2) Try.underlying83 size_obj hk W
  obtain ⟨b, q, c, rfl, hb, hc, hcell⟩ := Rd.form (Rd.of_own h2) (by omega)
  obtain ⟨c0, c1⟩ := obC_get ho hv
  rw [hvv] at c1 hv hr
  refine ⟨b, q + n * 2, gf, _, cap, fun W => hix W, hcell _ _ c0, hcell _ _ c1, hb, ⟨vs, _, cap, h1, h2, h4, h5, hv⟩, rfl, fun i hi W => ?_⟩
  have := Rd.ixN (P := Try.prog) (OwnW.rd hr) Try.underlying22 one_u64 hi W
  simpa [cellAt] using this
end Go.Proofs.Ytmbokdnndlnjkaa
namespace Go.Proofs.Ytmbokdnndlnjkaa
open Go.RowKit L02 L13 L18 L20
/-- a byte of an own table -/
theorem OwnT.at2 {w : World} {base : Nat} {v : Value} {L : List (List UInt8)} (h : OwnT w base v L) {k i : Nat} {l : List UInt8} {b : UInt8} (hl : L[k]? = some l) (hb : l[i]? = some b) :
    ∃ ad bd y, (∀ W, (Instr.indexAt 70 v (.int .i64 (k : Int))).run Try.prog W = .ok (.pointer (some ad)) W) ∧ w.cell? ad = some y ∧ (∀ W, (Instr.indexAt 28 y (.int .i64 (i : Int))).run Try.prog W = .ok (.pointer (some bd)) W) ∧ w.cell? bd = some (.int .u8 b.toNat) ∧ base ≤ ad.block ∧ base ≤ bd.block := by
  obtain ⟨vs, h1, h2, h4⟩ := h
  have hk : k < L.length := (List.getElem?_eq_some_iff.1 hl).1
  have hi : i < l.length := (List.getElem?_eq_some_iff.1 hb).1
  have hv : vs[k]? = some vs[k] := List.getElem?_eq_getElem (by omega)
  have hr := h4 k _ _ hv hl
  obtain ⟨g, c, cur, e, hg, _⟩ := own_form h2 (by omega)
  obtain ⟨g', c', cur', e', hg', _⟩ := own_form hr (by omega)
  refine ⟨cellAt v (k * 1), cellAt vs[k] (i * 1), vs[k], fun W => Rd.ixN (Rd.of_own h2) Try.underlying70 one_bytes hk W, by rw [Nat.mul_one]; exact Rd.cell (Rd.of_own h2) hv, fun W => Rd.ixN (OwnB.rd hr) Try.underlying28 one_u8 hi W, ?_, ?_, ?_⟩
  · rw [Nat.mul_one]; exact Rd.cell (OwnB.rd hr) (by rw [List.getElem?_map, hb]; rfl)
  · rw [e]; exact hg
  · rw [e']; exact hg'
end Go.Proofs.Ytmbokdnndlnjkaa
namespace Go.Proofs.Ytmbokdnndlnjkaa
open Go.RowKit L02 L13 L18 L20
theorem OwnM.nil (w : World) (base : Nat) : OwnM w base 46 (.slice none 0 0) (.slice none 0 0) (.slice none 0 0) .nil := ⟨OwnT.nil _ _, OwnO.nil _ _, OwnS.nil _ _ _⟩
end Go.Proofs.Ytmbokdnndlnjkaa
namespace Go.Proofs.Ytmbokdnndlnjkaa
open Go.RowKit L02 L13 L18 L20
theorem putF_obj {m : Mo} {n i : Nat} {o : Ob} {x : UInt64} (ho : m.objs[n]? = some o) : (putF m n i x).objs[n]? = some ⟨o.ty, o.fs.set i x⟩ := by
  have hob : ob m n = o := by simp [ob, List.getD_eq_getElem?_getD, ho]
  show (m.objs.set n _)[n]? = _
  rw [List.getElem?_set_self (List.getElem?_eq_some_iff.1 ho).1, hob]
theorem putF_putF {m : Mo} {n i : Nat} {o : Ob} {x y : UInt64} (ho : m.objs[n]? = some o) : putF (putF m n i x) n i y = putF m n i y := by
  have hob : ob m n = o := by simp [ob, List.getD_eq_getElem?_getD, ho]
  have hob2 : ob (putF m n i x) n = ⟨o.ty, o.fs.set i x⟩ := by simp [ob, List.getD_eq_getElem?_getD, putF_obj ho]
  show (⟨(putF m n i x).types, (putF m n i x).objs.set n ⟨(ob (putF m n i x) n).ty, (ob (putF m n i x) n).fs.set i y⟩, (putF m n i x).slots⟩ : Mo) = ⟨m.types, m.objs.set n ⟨(ob m n).ty, (ob m n).fs.set i y⟩, m.slots⟩
  rw [hob2, hob]
  show (⟨m.types, (m.objs.set n ⟨(ob m n).ty, (ob m n).fs.set i x⟩).set n _, m.slots⟩ : Mo) = _
  rw [List.set_set, List.set_set]
end Go.Proofs.Ytmbokdnndlnjkaa
namespace Go.Proofs.Ytmbokdnndlnjkaa
open Go.RowKit L02 L13 L18 L20
/-- the region in which a handle is made, and a block for it: g is that block. R: what holds of the model before, behind the call; ps: blocks that stay -/
def FHandle (w : World) (R : Bool → World → Prop) (ps : List (Nat × TypeId × Array Value)) (gf i : Nat) (x : Int) (a b : Int) (z : Nat) (g : Nat) : (Nat → Bool) → World → Prop := fun φ W =>
  (R (φ 6) W ∧ z ≤ W.heap.size) ∧ Below w.heap.size w W ∧ (∀ p ∈ ps, Bx W p.1 p.2.1 p.2.2) ∧ W.cell? ⟨gf, i, none⟩ = some (.int .u64 x) ∧ (φ 11 = true → φ 10 = true) ∧ (φ 10 = true → (∀ p ∈ ps, g ≠ p.1) ∧ gf ≠ g ∧ z ≤ g) ∧ (φ 10 = true → φ 11 = false → Bx W g 35 #[.int .i64 0, .int .i64 0]) ∧ (φ 11 = true → Bx W g 35 #[.int .i64 a, .int .i64 b])
theorem FHandle.dep {w : World} {R : Bool → World → Prop} {ps : List (Nat × TypeId × Array Value)} {gf i : Nat} {x a b : Int} {z g : Nat} : Dep (FHandle w R ps gf i x a b z g) [6, 10, 11] := by
  rintro φ ψ W h ⟨h1, h2, h3, h4, h5, h6, h7, h8⟩
  have e1 := h 6 (by simp); have e2 := h 10 (by simp); have e3 := h 11 (by simp)
  rw [e1] at h1; rw [e2, e3] at h5; rw [e2] at h6; rw [e2, e3] at h7; rw [e3] at h8
  exact ⟨h1, h2, h3, h4, h5, h6, h7, h8⟩
theorem FHandle.agree {w : World} {R : Bool → World → Prop} {ps : List (Nat × TypeId × Array Value)} {gf i : Nat} {x a b : Int} {z g g' : Nat} {φ : Nat → Bool} {W : World} (h : φ 10 = true → g = g') (hF : FHandle w R ps gf i x a b z g φ W) : FHandle w R ps gf i x a b z g' φ W := by
  by_cases h10 : φ 10 = true
  · rw [← h h10]; exact hF
  · obtain ⟨h1, h2, h3, h4, h5, h6, h7, h8⟩ := hF
    exact ⟨h1, h2, h3, h4, h5, fun e => absurd e h10, fun e => absurd e h10, fun e => absurd (h5 e) h10⟩
/-- the block is made -/
theorem FHandle.alloc {w : World} {R : Bool → World → Prop} {ps : List (Nat × TypeId × Array Value)} {gf i : Nat} {x a b : Int} {z g : Nat} {φ : Nat → Bool} {W : World} (hF : FHandle w R ps gf i x a b z g φ W) (h10 : φ 10 = false) (hR : ∀ c W o, R c W → R c (W.alloc o)) :
    FHandle w R ps gf i x a b z W.heap.size (fun j => j == 10 || φ j) (W.alloc (.cells #[.int .i64 0, .int .i64 0] 35)) := by
  obtain ⟨h1, h2, h3, h4, h5, h6, h7, h8⟩ := hF
  have h11 : φ 11 = false := by
    cases e : φ 11
    · rfl
    · rw [h5 e] at h10; cases h10
  have hlt := World.block_lt_of_cell? W _ h4
  refine ⟨⟨by simpa using hR _ _ _ h1.1, by simp; omega⟩, h2.alloc h2.size _, fun p hp => (h3 p hp).alloc _, cell_later ((Below.refl _ W).alloc (Nat.le_refl _) _) h4, by simp, fun _ => ⟨fun p hp => by have := (h3 p hp).lt; omega, by simp at hlt; omega, h1.2⟩, fun _ _ => Bx.new _ _ _, by simp [h11]⟩
/-- the handle is made -/
theorem FHandle.call {w : World} {R : Bool → World → Prop} {ps : List (Nat × TypeId × Array Value)} {gf i : Nat} {x a b : Int} {z g : Nat} {φ : Nat → Bool} {W W' : World} {row : Option Nat} (hF : FHandle w R ps gf i x a b z g φ W) (hk : Keep W W' row) (hps : ∀ p ∈ ps, row ≠ some p.1) (hgf : row ≠ some gf) (hrow : ∀ k, row = some k → k < z)
    (hR : R true W') (hB : Below w.heap.size w W') : FHandle w R ps gf i x a b z g (fun j => j == 6 || φ j) W' := by
  obtain ⟨h1, h2, h3, h4, h5, h6, h7, h8⟩ := hF
  have hlt := World.block_lt_of_cell? W _ h4
  have hrg : φ 10 = true → row = none ∨ row ≠ some g := fun e => by
    rcases row with _ | k
    · exact .inl rfl
    · have h := hrow k rfl
      have h' := (h6 e).2.2
      exact .inr (fun e => by injection e with e; omega)
  refine ⟨⟨by simpa using hR, Nat.le_trans h1.2 hk.1⟩, hB, fun p hp => (h3 p hp).keep hk (.inr (hps p hp)), ?_, by simpa using h5, by simpa using h6, fun e1 e2 => ?_, fun e => ?_⟩
  · rw [World.cell?_of_block (hk.2 gf hlt (fun e => hgf e.symm))]; exact h4
  · have e1' : φ 10 = true := by simpa using e1
    exact (h7 e1' (by simpa using e2)).keep hk (hrg e1')
  · have e' : φ 11 = true := by simpa using e
    exact (h8 e').keep hk (hrg (h5 e'))
/-- the handle is stored -/
theorem FHandle.store {w : World} {R : Bool → World → Prop} {ps : List (Nat × TypeId × Array Value)} {gf i : Nat} {x a b : Int} {z g : Nat} {φ : Nat → Bool} {W : World} (hF : FHandle w R ps gf i x a b z g φ W) (hz : w.heap.size ≤ z) (h10 : φ 10 = true) (h11 : φ 11 = false)
    (hR : ∀ c W p cs u, Bx W g 35 cs → R c W → R c (W.setCell ⟨g, p, none⟩ u)) :
    (W.cell? ⟨g, 0, none⟩ = some (.int .i64 0) ∧ W.cell? ⟨g, 1, none⟩ = some (.int .i64 0) ∧ ∀ j, W.frozen? ⟨g, j, none⟩ = false) ∧ FHandle w R ps gf i x a b z g (fun j => j == 11 || φ j) ((W.setCell ⟨g, 0, none⟩ (.int .i64 a)).setCell ⟨g, 1, none⟩ (.int .i64 b)) := by
  obtain ⟨h1, h2, h3, h4, h5, h6, h7, h8⟩ := hF
  have hb := h7 h10 h11
  obtain ⟨k1, k2, k3⟩ := h6 h10
  have k4 := Nat.le_trans hz k3
  refine ⟨⟨hb.cell 0, hb.cell 1, fun j => hb.free j⟩, ⟨?_, by simpa [World.setCell] using h1.2⟩, (h2.setCell (p := ⟨g, 0, none⟩) k4 _).setCell (p := ⟨g, 1, none⟩) k4 _, fun p hp => ((h3 p hp).far (p := ⟨g, 0, none⟩) (Ne.symm (k1 p hp)) _).far (p := ⟨g, 1, none⟩) (Ne.symm (k1 p hp)) _, cell_far (cell_far h4 k2) k2, fun _ => by simpa using h10, fun _ => ⟨k1, k2, k3⟩, fun _ e => by simp at e, fun _ => ?_⟩
  · have := hR _ _ 1 _ (.int .i64 b) (hb.set (i := 0) (.int .i64 a)) (hR _ _ 0 _ (.int .i64 a) hb h1.1)
    simpa using this
  · have := (hb.set (i := 0) (.int .i64 a)).set (i := 1) (.int .i64 b)
    simpa using this
/-- two results are stored, in either order -/
def FTwoR (w : World) (B0 : Nat) (t o s : Value) (m : Mo) (p7 p4 gq : Nat) (p3 : Nat) (a b : Int) : (Nat → Bool) → World → Prop := fun f W =>
  Below w.heap.size w W ∧ OwnM W B0 46 t o s m ∧ Bx W p3 85 (if f 2 = true then #[t, o, s] else #[.slice none 0 0, .slice none 0 0, .slice none 0 0]) ∧ Bx W p7 35 (if f 3 = true then #[.int .i64 a, .int .i64 b] else #[.int .i64 0, .int .i64 0]) ∧
    Bx W p4 85 #[t, o, s] ∧ Bx W gq 35 #[.int .i64 a, .int .i64 b]
theorem FTwoR.dep {w : World} {B0 : Nat} {t o s : Value} {m : Mo} {p7 p4 gq p3 : Nat} {a b : Int} : Dep (FTwoR w B0 t o s m p7 p4 gq p3 a b) [2, 3] := by
  rintro f g W h ⟨h1, h2, h3, h4, h5, h6⟩
  have e1 := h 2 (by simp); have e2 := h 3 (by simp)
  rw [e1] at h3; rw [e2] at h4
  exact ⟨h1, h2, h3, h4, h5, h6⟩
theorem FTwoR.store2 {w : World} {B0 : Nat} {t o s : Value} {m : Mo} {p7 p4 gq p3 : Nat} {a b : Int} {f : Nat → Bool} {W : World} (hF : FTwoR w B0 t o s m p7 p4 gq p3 a b f W) (h2 : f 2 = false) (hw : w.heap.size ≤ p3) (n7 : p7 ≠ p3) (n4 : p4 ≠ p3) (nq : gq ≠ p3) :
    (∀ j, W.cell? ⟨p3, j, none⟩ = (#[.slice none 0 0, .slice none 0 0, .slice none 0 0] : Array Value)[j]?) ∧ (∀ j, W.frozen? ⟨p3, j, none⟩ = false) ∧ FTwoR w B0 t o s m p7 p4 gq p3 a b (fun j => j == 2 || f j) (((W.setCell ⟨p3, 0, none⟩ t).setCell ⟨p3, 1, none⟩ o).setCell ⟨p3, 2, none⟩ s) := by
  obtain ⟨h1, om, h3, h4, h5, h6⟩ := hF
  rw [h2] at h3
  have h3 : Bx W p3 85 #[.slice none 0 0, .slice none 0 0, .slice none 0 0] := h3
  have fr := fun {q : Nat} {tq : TypeId} {cs : Array Value} (hb : Bx W q tq cs) (hn : q ≠ p3) => ((hb.far (p := ⟨p3, 0, none⟩) hn t).far (p := ⟨p3, 1, none⟩) hn o).far (p := ⟨p3, 2, none⟩) hn s
  refine ⟨h3.cell, h3.free, ((h1.setCell (p := ⟨p3, 0, none⟩) hw t).setCell (p := ⟨p3, 1, none⟩) hw o).setCell (p := ⟨p3, 2, none⟩) hw s, OwnM.set3 om h3, ?_, by simpa using fr h4 n7, fr h5 n4, fr h6 nq⟩
  have := ((h3.set (i := 0) t).set (i := 1) o).set (i := 2) s
  simpa using this
end Go.Proofs.Ytmbokdnndlnjkaa
namespace Go.Proofs.Ytmbokdnndlnjkaa
open Go.RowKit L02 L13 L18 L20
end Go.Proofs.Ytmbokdnndlnjkaa
namespace Go.Proofs.Ytmbokdnndlnjkaa
open Go.RowKit L02 L13 L18 L20
end Go.Proofs.Ytmbokdnndlnjkaa
namespace Go.Proofs.Ytmbokdnndlnjkaa
open Go.RowKit L02 L13 L18 L20
end Go.Proofs.Ytmbokdnndlnjkaa
namespace Go.Proofs.Ytmbokdnndlnjkaa
open Go.RowKit L02 L13 L18 L20
end Go.Proofs.Ytmbokdnndlnjkaa
namespace Go.Proofs.Ytmbokdnndlnjkaa
open Go.RowKit L02 L13 L18 L20
end Go.Proofs.Ytmbokdnndlnjkaa
namespace Go.Proofs.Ytmbokdnndlnjkaa
open Go.RowKit L02 L13 L18 L20
end Go.Proofs.Ytmbokdnndlnjkaa
namespace Go.Proofs.Ytmbokdnndlnjkaa
open Go.RowKit L02 L13 L18 L20
end Go.Proofs.Ytmbokdnndlnjkaa
namespace Go.Proofs.Ytmbokdnndlnjkaa
open Go.RowKit L02 L13 L18 L20
end Go.Proofs.Ytmbokdnndlnjkaa
namespace Go.Proofs.Ytmbokdnndlnjkaa
open Go.RowKit L02 L13 L18 L20
end Go.Proofs.Ytmbokdnndlnjkaa
namespace Go.Proofs.Ytmbokdnndlnjkaa
open Go.RowKit L02 L13 L18 L20
theorem busy_cases (d : Int) (sl : Int) (s : Sl) (n : Nat) : ((d != sl) = false) ∨ ((d != sl) = true ∧ s.used = false) ∨ ((d != sl) = true ∧ s.used = true ∧ (s.at_ == (n : Int)) = false) ∨ ((d != sl) = true ∧ s.used = true ∧ (s.at_ == (n : Int)) = true) := by
  by_cases h : d = sl
  · exact .inl (by rw [bne_eq_false_iff_eq]; exact h)
  · have h' : (d != sl) = true := by rw [bne_iff_ne]; exact h
    cases hu : s.used
    · exact .inr (.inl ⟨h', rfl⟩)
    · by_cases ha : s.at_ = n
      · exact .inr (.inr (.inr ⟨h', rfl, by rw [beq_iff_eq]; exact ha⟩))
      · exact .inr (.inr (.inl ⟨h', rfl, by rw [beq_eq_false_iff_ne]; exact ha⟩))
end Go.Proofs.Ytmbokdnndlnjkaa
