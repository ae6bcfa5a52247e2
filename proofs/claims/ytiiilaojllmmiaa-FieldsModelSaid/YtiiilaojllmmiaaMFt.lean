/- Contracts of the functions that the laws 'F' reach, part 20. No condition. -/
import Derived.Test.YtiiilaojllmmiaaMFs
set_option linter.unusedVariables false
set_option linter.unusedSimpArgs false
namespace Go.Proofs.Ytiiilaojllmmiaa
open Go.RowKit L01 L02 L05 L06 L07 L13 L14 L15 L18 L19 L20
theorem ent_bx {w : World} {base p : Nat} {a : Int} {x : UInt64} (h : Bx w p 47 #[.int .i64 a, .int .u64 x.toNat]) (hb : base ≤ p) : OwnE w base (.slice (some ⟨p, 0, none⟩) 1 1) [(a, x)] :=
  ⟨rfl, .inr ⟨p, 1, #[.int .i64 a, .int .u64 x.toNat], rfl, hb, h, Nat.le_refl _, by decide, rfl, rfl⟩⟩
set_option maxRecDepth 100000 in
set_option maxHeartbeats 2000000 in
theorem SetRef24_any (v pv : Value) (l : List UInt64) (sl g n : Int) (tq : Option (Int × Int)) (E : List (Int × UInt64)) (r : Int) (hx : E = riL l sl g n tq) (hr : r = riE l sl g n tq) (w : World) (h : Words w v l) (hpt : PtrH w pv tq) :
    Calls Try.prog 33 #[v, .agg #[.int .i64 sl, .int .i64 g], .int .i64 n, pv] w fun e w' => ∃ y, e = .returned (.tuple #[y, .int .i64 r]) ∧ OwnE w' w.heap.size y E ∧ Below w.heap.size w w' := by
  have B : Below w.heap.size w w := Below.refl _ _
  have H := Lib.hid h
  obtain ⟨p, hp⟩ : ∃ p, p = kiAt l sl g n := ⟨_, rfl⟩
  obtain ⟨kd, hkd⟩ : ∃ k, k = kiK l sl g n := ⟨_, rfl⟩
  obtain ⟨e0, he⟩ : ∃ e, e = kiErr l sl g n := ⟨_, rfl⟩
  have FT := Lib.hid (fun w h => find24_any v l sl g n p kd e0 hp hkd he w h)
  have hx0 : r ≠ 0 → E = [] := fun h0 => by rw [hx]; unfold riL; rw [if_neg (by rw [← hr]; exact h0)]
  by_cases h0 : e0 = 0
  case neg =>
    have hre : r = e0 := by rw [hr]; unfold riE; rw [← he, if_neg h0]
    obtain rfl := hx0 (by rw [hre]; exact h0)
    subst hre
    have n1 : (r != 0) = true := by rw [bne_iff_ne]; exact h0
    clear hx hr hx0 h hp hkd he h0 hpt
    go_enter Try.func33, Try.ntmps33
    go_upto_region 1 with (fail)
    refine wp_gen (fun Wv => Bx Wv (w.heap.size) (24) (#[.int .i64 sl, .int .i64 g]) ∧ Below w.heap.size w Wv) ⟨((Bx.at_ (by simp))), ((Below.refl _ w).alloc (by simp <;> omega) _)⟩ ?_
    rintro wa1 ⟨g1, b⟩
    replace B := B.trans (b.mono B.size); clear b
    have c_g1 := g1.cell; have f_g1 := g1.free; have a_g1 := fun o => (g1.alloc o).cell; have d_g1 := fun o o2 => ((g1.alloc o).alloc o2).cell; have e_g1 := fun o => (g1.alloc o).free
    go_wp2_with fail
    refine (FT.out _ (H.out.below B)).mono ?_
    rintro e wa2 ⟨rfl, b⟩
    try clear c_g1 f_g1 a_g1 d_g1 e_g1
    replace g1 := g1.below b; have c_g1 := g1.cell; have f_g1 := g1.free; have a_g1 := fun o => (g1.alloc o).cell; have d_g1 := fun o o2 => ((g1.alloc o).alloc o2).cell; have e_g1 := fun o => (g1.alloc o).free; replace B := B.trans (b.mono B.size); clear b
    go_wp2
    go_ret2
    exact ⟨_, rfl, OwnE.nil _ _, B⟩
  case pos =>
    subst h0
    by_cases h3 : kd.toNat = 3
    case neg =>
      have hre : r = 42 := by rw [hr]; unfold riE; rw [if_pos he.symm, ← hkd, if_neg h3]
      obtain rfl := hx0 (by rw [hre]; decide)
      subst hre
      have k3 : ((kd.toNat : Int) != 3) = true := by rw [bne_iff_ne]; omega
      clear hx hr hx0 h hp hkd he h3 hpt
      go_enter Try.func33, Try.ntmps33
      go_upto_region 1 with (fail)
      refine wp_gen (fun Wv => Bx Wv (w.heap.size) (24) (#[.int .i64 sl, .int .i64 g]) ∧ Below w.heap.size w Wv) ⟨((Bx.at_ (by simp))), ((Below.refl _ w).alloc (by simp <;> omega) _)⟩ ?_
      rintro wa1 ⟨g1, b⟩
      replace B := B.trans (b.mono B.size); clear b
      have c_g1 := g1.cell; have f_g1 := g1.free; have a_g1 := fun o => (g1.alloc o).cell; have d_g1 := fun o o2 => ((g1.alloc o).alloc o2).cell; have e_g1 := fun o => (g1.alloc o).free
      go_wp2_with fail
      refine (FT.out _ (H.out.below B)).mono ?_
      rintro e wa2 ⟨rfl, b⟩
      try clear c_g1 f_g1 a_g1 d_g1 e_g1
      replace g1 := g1.below b; have c_g1 := g1.cell; have f_g1 := g1.free; have a_g1 := fun o => (g1.alloc o).cell; have d_g1 := fun o o2 => ((g1.alloc o).alloc o2).cell; have e_g1 := fun o => (g1.alloc o).free; replace B := B.trans (b.mono B.size); clear b
      go_wp2
      go_ret2
      exact ⟨_, rfl, OwnE.nil _ _, B⟩
    case pos =>
      have k3 : ((kd.toNat : Int) != 3) = false := by rw [bne_eq_false_iff_eq]; omega
      cases tq with
      | none =>
        have hre : r = 0 := by rw [hr]; unfold riE; rw [if_pos he.symm, ← hkd, if_pos h3]
        have hE : E = [(p, 0)] := by rw [hx]; unfold riL; rw [if_pos (by rw [← hr]; exact hre), ← hp]; rfl
        subst hre; subst hE
        have hpn : pv = .pointer none := hpt
        subst hpn
        clear hx hr hx0 h hp hkd he h3 hpt
        go_enter Try.func33, Try.ntmps33
        go_upto_region 1 with (fail)
        refine wp_gen (fun Wv => Bx Wv (w.heap.size) (24) (#[.int .i64 sl, .int .i64 g]) ∧ Below w.heap.size w Wv) ⟨((Bx.at_ (by simp))), ((Below.refl _ w).alloc (by simp <;> omega) _)⟩ ?_
        rintro wa1 ⟨g1, b⟩
        replace B := B.trans (b.mono B.size); clear b
        have c_g1 := g1.cell; have f_g1 := g1.free; have a_g1 := fun o => (g1.alloc o).cell; have d_g1 := fun o o2 => ((g1.alloc o).alloc o2).cell; have e_g1 := fun o => (g1.alloc o).free
        go_wp2_with fail
        refine (FT.out _ (H.out.below B)).mono ?_
        rintro e wa2 ⟨rfl, b⟩
        try clear c_g1 f_g1 a_g1 d_g1 e_g1
        replace g1 := g1.below b; have c_g1 := g1.cell; have f_g1 := g1.free; have a_g1 := fun o => (g1.alloc o).cell; have d_g1 := fun o o2 => ((g1.alloc o).alloc o2).cell; have e_g1 := fun o => (g1.alloc o).free; replace B := B.trans (b.mono B.size); clear b
        go_upto_region 7 with (fail)
        refine wp_gen (fun Wv => Bx Wv (wa2.heap.size) (47) (#[.int .i64 p, .int .u64 0]) ∧ Below wa2.heap.size wa2 Wv) ⟨((Bx.at_ (by simp))), ((Below.refl _ wa2).alloc (by simp <;> omega) _)⟩ ?_
        rintro wa3 ⟨g6, b⟩
        try clear c_g1 f_g1 a_g1 d_g1 e_g1
        replace g1 := g1.below b; have c_g1 := g1.cell; have f_g1 := g1.free; have a_g1 := fun o => (g1.alloc o).cell; have d_g1 := fun o o2 => ((g1.alloc o).alloc o2).cell; have e_g1 := fun o => (g1.alloc o).free; replace B := B.trans (b.mono B.size); clear b
        have c_g6 := g6.cell; have f_g6 := g6.free; have a_g6 := fun o => (g6.alloc o).cell; have d_g6 := fun o o2 => ((g6.alloc o).alloc o2).cell; have e_g6 := fun o => (g6.alloc o).free
        go_wp2
        go_ret2
        exact ⟨_, rfl, ent_own (x := 0) B.size, B.alloc B.size _⟩
      | some t =>
        obtain ⟨gp, rfl, gb⟩ := hpt
        obtain ⟨d, hd⟩ : ∃ d, d = resErr l t.1 t.2 := ⟨_, rfl⟩
        obtain ⟨a9, ha9⟩ : ∃ a, a = res l t.1 t.2 := ⟨_, rfl⟩
        have RT := Lib.hid (fun w h => Resolve_any v l t.1 t.2 a9 d ha9 hd w h)
        have hre : r = d := by rw [hr]; unfold riE; rw [if_pos he.symm, ← hkd, if_pos h3]; exact hd.symm
        obtain ⟨t1, t2⟩ := t
        dsimp only at gb RT ha9 hd
        by_cases hd0 : d = 0
        case neg =>
          obtain rfl := hx0 (by rw [hre]; exact hd0)
          subst hre
          have n1 : (r != 0) = true := by rw [bne_iff_ne]; exact hd0
          clear hx hr hx0 h hp hkd he h3 hd hd0 ha9
          have g5 := gb
          clear gb
          go_enter Try.func33, Try.ntmps33
          go_upto_region 1 with (fail)
          refine wp_gen (fun Wv => Bx Wv (w.heap.size) (24) (#[.int .i64 sl, .int .i64 g]) ∧ Below w.heap.size w Wv) ⟨((Bx.at_ (by simp))), ((Below.refl _ w).alloc (by simp <;> omega) _)⟩ ?_
          rintro wa1 ⟨g1, b⟩
          try clear c_g5 f_g5 a_g5 d_g5 e_g5
          replace g5 := g5.below b; have c_g5 := g5.cell; have f_g5 := g5.free; have a_g5 := fun o => (g5.alloc o).cell; have d_g5 := fun o o2 => ((g5.alloc o).alloc o2).cell; have e_g5 := fun o => (g5.alloc o).free; replace B := B.trans (b.mono B.size); clear b
          have c_g1 := g1.cell; have f_g1 := g1.free; have a_g1 := fun o => (g1.alloc o).cell; have d_g1 := fun o o2 => ((g1.alloc o).alloc o2).cell; have e_g1 := fun o => (g1.alloc o).free
          go_wp2_with fail
          refine (FT.out _ (H.out.below B)).mono ?_
          rintro e wa2 ⟨rfl, b⟩
          try clear c_g5 f_g5 a_g5 d_g5 e_g5
          replace g5 := g5.below b; have c_g5 := g5.cell; have f_g5 := g5.free; have a_g5 := fun o => (g5.alloc o).cell; have d_g5 := fun o o2 => ((g5.alloc o).alloc o2).cell; have e_g5 := fun o => (g5.alloc o).free; try clear c_g1 f_g1 a_g1 d_g1 e_g1
          replace g1 := g1.below b; have c_g1 := g1.cell; have f_g1 := g1.free; have a_g1 := fun o => (g1.alloc o).cell; have d_g1 := fun o o2 => ((g1.alloc o).alloc o2).cell; have e_g1 := fun o => (g1.alloc o).free; replace B := B.trans (b.mono B.size); clear b
          have hzz := B.size
          go_upto_region 7 with (fail)
          refine wp_gen (fun Wv => Bx Wv (wa2.heap.size) (47) (#[.int .i64 p, .int .u64 0]) ∧ Below wa2.heap.size wa2 Wv) ⟨((Bx.at_ (by simp))), ((Below.refl _ wa2).alloc (by simp <;> omega) _)⟩ ?_
          rintro wa3 ⟨g6, b⟩
          try clear c_g5 f_g5 a_g5 d_g5 e_g5
          replace g5 := g5.below b; have c_g5 := g5.cell; have f_g5 := g5.free; have a_g5 := fun o => (g5.alloc o).cell; have d_g5 := fun o o2 => ((g5.alloc o).alloc o2).cell; have e_g5 := fun o => (g5.alloc o).free; try clear c_g1 f_g1 a_g1 d_g1 e_g1
          replace g1 := g1.below b; have c_g1 := g1.cell; have f_g1 := g1.free; have a_g1 := fun o => (g1.alloc o).cell; have d_g1 := fun o o2 => ((g1.alloc o).alloc o2).cell; have e_g1 := fun o => (g1.alloc o).free; replace B := B.trans (b.mono B.size); clear b
          have c_g6 := g6.cell; have f_g6 := g6.free; have a_g6 := fun o => (g6.alloc o).cell; have d_g6 := fun o o2 => ((g6.alloc o).alloc o2).cell; have e_g6 := fun o => (g6.alloc o).free
          go_wp2_with fail
          refine (RT.out _ (H.out.below B)).mono ?_
          rintro e wa4 ⟨rfl, b⟩
          try clear c_g5 f_g5 a_g5 d_g5 e_g5
          replace g5 := g5.below b; have c_g5 := g5.cell; have f_g5 := g5.free; have a_g5 := fun o => (g5.alloc o).cell; have d_g5 := fun o o2 => ((g5.alloc o).alloc o2).cell; have e_g5 := fun o => (g5.alloc o).free; try clear c_g1 f_g1 a_g1 d_g1 e_g1
          replace g1 := g1.below b; have c_g1 := g1.cell; have f_g1 := g1.free; have a_g1 := fun o => (g1.alloc o).cell; have d_g1 := fun o o2 => ((g1.alloc o).alloc o2).cell; have e_g1 := fun o => (g1.alloc o).free; try clear c_g6 f_g6 a_g6 d_g6 e_g6
          replace g6 := g6.below b; have c_g6 := g6.cell; have f_g6 := g6.free; have a_g6 := fun o => (g6.alloc o).cell; have d_g6 := fun o o2 => ((g6.alloc o).alloc o2).cell; have e_g6 := fun o => (g6.alloc o).free; replace B := B.trans (b.mono B.size); clear b
          go_wp2
          go_ret2
          exact ⟨_, rfl, OwnE.nil _ _, B⟩
        case pos =>
          subst hd0
          subst hre
          have rt : Rt l := by obtain ⟨k, a, nn, q, i, b, t, kd', x', _, _, fd⟩ := Fd.of he.symm; exact fd.hd.rt
          have hrb : 0 ≤ a9 ∧ a9 ≤ 1000000 := by
            obtain ⟨_, k9, s9, _, _, _, hu9, _, hr9, e9⟩ := resErr_ok hd.symm
            rw [ha9, e9]
            have := hr9.2.2.2 hu9
            omega
          have hE : E = [(p, UInt64.ofNat a9.toNat)] := by rw [hx]; unfold riL; rw [if_pos hr.symm, ← hp, ha9]; rfl
          obtain ⟨x9, hx9⟩ : ∃ x, x = UInt64.ofNat a9.toNat := ⟨_, rfl⟩
          have hax : a9 = (x9.toNat : Int) := by
            rw [hx9, UInt64.toNat_ofNat_of_lt' (by show a9.toNat < 18446744073709551616; omega)]; omega
          rw [← hx9] at hE
          subst hE; subst hax
          have hw9 : IntKind.u64.wrap (x9.toNat : Int) = (x9.toNat : Int) := by show (x9.toNat : Int) % 18446744073709551616 = _; omega
          clear hx hr hx0 h hp hkd he h3 hd ha9 rt hrb hx9
          have g5 := gb
          clear gb
          go_enter Try.func33, Try.ntmps33
          go_upto_region 1 with (fail)
          refine wp_gen (fun Wv => Bx Wv (w.heap.size) (24) (#[.int .i64 sl, .int .i64 g]) ∧ Below w.heap.size w Wv) ⟨((Bx.at_ (by simp))), ((Below.refl _ w).alloc (by simp <;> omega) _)⟩ ?_
          rintro wa1 ⟨g1, b⟩
          try clear c_g5 f_g5 a_g5 d_g5 e_g5
          replace g5 := g5.below b; have c_g5 := g5.cell; have f_g5 := g5.free; have a_g5 := fun o => (g5.alloc o).cell; have d_g5 := fun o o2 => ((g5.alloc o).alloc o2).cell; have e_g5 := fun o => (g5.alloc o).free; replace B := B.trans (b.mono B.size); clear b
          have c_g1 := g1.cell; have f_g1 := g1.free; have a_g1 := fun o => (g1.alloc o).cell; have d_g1 := fun o o2 => ((g1.alloc o).alloc o2).cell; have e_g1 := fun o => (g1.alloc o).free
          go_wp2_with fail
          refine (FT.out _ (H.out.below B)).mono ?_
          rintro e wa2 ⟨rfl, b⟩
          try clear c_g5 f_g5 a_g5 d_g5 e_g5
          replace g5 := g5.below b; have c_g5 := g5.cell; have f_g5 := g5.free; have a_g5 := fun o => (g5.alloc o).cell; have d_g5 := fun o o2 => ((g5.alloc o).alloc o2).cell; have e_g5 := fun o => (g5.alloc o).free; try clear c_g1 f_g1 a_g1 d_g1 e_g1
          replace g1 := g1.below b; have c_g1 := g1.cell; have f_g1 := g1.free; have a_g1 := fun o => (g1.alloc o).cell; have d_g1 := fun o o2 => ((g1.alloc o).alloc o2).cell; have e_g1 := fun o => (g1.alloc o).free; replace B := B.trans (b.mono B.size); clear b
          have hzz := B.size
          go_upto_region 7 with (fail)
          refine wp_gen (fun Wv => Bx Wv (wa2.heap.size) (47) (#[.int .i64 p, .int .u64 0]) ∧ Below wa2.heap.size wa2 Wv) ⟨((Bx.at_ (by simp))), ((Below.refl _ wa2).alloc (by simp <;> omega) _)⟩ ?_
          rintro wa3 ⟨g6, b⟩
          try clear c_g5 f_g5 a_g5 d_g5 e_g5
          replace g5 := g5.below b; have c_g5 := g5.cell; have f_g5 := g5.free; have a_g5 := fun o => (g5.alloc o).cell; have d_g5 := fun o o2 => ((g5.alloc o).alloc o2).cell; have e_g5 := fun o => (g5.alloc o).free; try clear c_g1 f_g1 a_g1 d_g1 e_g1
          replace g1 := g1.below b; have c_g1 := g1.cell; have f_g1 := g1.free; have a_g1 := fun o => (g1.alloc o).cell; have d_g1 := fun o o2 => ((g1.alloc o).alloc o2).cell; have e_g1 := fun o => (g1.alloc o).free; replace B := B.trans (b.mono B.size); clear b
          have c_g6 := g6.cell; have f_g6 := g6.free; have a_g6 := fun o => (g6.alloc o).cell; have d_g6 := fun o o2 => ((g6.alloc o).alloc o2).cell; have e_g6 := fun o => (g6.alloc o).free
          go_wp2_with fail
          refine (RT.out _ (H.out.below B)).mono ?_
          rintro e wa4 ⟨rfl, b⟩
          try clear c_g5 f_g5 a_g5 d_g5 e_g5
          replace g5 := g5.below b; have c_g5 := g5.cell; have f_g5 := g5.free; have a_g5 := fun o => (g5.alloc o).cell; have d_g5 := fun o o2 => ((g5.alloc o).alloc o2).cell; have e_g5 := fun o => (g5.alloc o).free; try clear c_g1 f_g1 a_g1 d_g1 e_g1
          replace g1 := g1.below b; have c_g1 := g1.cell; have f_g1 := g1.free; have a_g1 := fun o => (g1.alloc o).cell; have d_g1 := fun o o2 => ((g1.alloc o).alloc o2).cell; have e_g1 := fun o => (g1.alloc o).free; try clear c_g6 f_g6 a_g6 d_g6 e_g6
          replace g6 := g6.below b; have c_g6 := g6.cell; have f_g6 := g6.free; have a_g6 := fun o => (g6.alloc o).cell; have d_g6 := fun o o2 => ((g6.alloc o).alloc o2).cell; have e_g6 := fun o => (g6.alloc o).free; replace B := B.trans (b.mono B.size); clear b
          have hp6 := g6.lt
          have hz6 : w.heap.size ≤ wa2.heap.size := hzz
          go_upto_region 12 with (fail)
          refine wp_gen (fun V => Bx V wa2.heap.size 47 #[.int .i64 p, .int .u64 x9.toNat] ∧ Below w.heap.size w V) ⟨by have := g6.set (i := 1) (.int .u64 x9.toNat); simpa using this, B.setCell (p := ⟨wa2.heap.size, 1, none⟩) hz6 _⟩ ?_
          clear g6 B c_g6 f_g6 a_g6 d_g6 e_g6 g5 c_g5 f_g5 a_g5 d_g5 e_g5 g1 c_g1 f_g1 a_g1 d_g1 e_g1
          rintro V ⟨g6, B⟩
          have c_g6 := g6.cell
          go_wp2
          go_ret2
          exact ⟨_, rfl, ent_own (x := x9) B.size, B.alloc B.size _⟩
set_option maxRecDepth 100000 in
set_option maxHeartbeats 4000000 in
theorem Root24_any (v : Value) (l : List UInt64) (sl g n : Int) (E : List (Int × UInt64)) (s1 s2 r : Int) (hx : E = oiL l sl g n) (hs1 : s1 = oiS l sl g n) (hs2 : s2 = oiG l sl g n) (hr : r = oiE l sl g n) (w : World) (h : Words w v l) :
    Calls Try.prog 34 #[v, .agg #[.int .i64 sl, .int .i64 g], .int .i64 n] w fun e w' => ∃ y, e = .returned (.tuple #[y, .agg #[.int .i64 s1, .int .i64 s2], .int .i64 r]) ∧ OwnE w' w.heap.size y E ∧ Below w.heap.size w w' := by
  have B : Below w.heap.size w w := Below.refl _ _
  have H := Lib.hid h
  obtain ⟨p, hp⟩ : ∃ p, p = kiAt l sl g n := ⟨_, rfl⟩
  obtain ⟨kd, hkd⟩ : ∃ k, k = kiK l sl g n := ⟨_, rfl⟩
  obtain ⟨e0, he⟩ : ∃ e, e = kiErr l sl g n := ⟨_, rfl⟩
  have FT := Lib.hid (fun w h => find24_any v l sl g n p kd e0 hp hkd he w h)
  have hx0 : r ≠ 0 → E = [] ∧ s1 = 0 ∧ s2 = 0 := fun h0 => ⟨by rw [hx, oiL, if_neg (by rw [← hr]; exact h0)], by rw [hs1, oiS, if_neg (by rw [← hr]; exact h0)], by rw [hs2, oiG, if_neg (by rw [← hr]; exact h0)]⟩
  by_cases h0 : e0 = 0
  case neg =>
    have hre : r = e0 := by rw [hr, oiE, ← he, if_neg h0]
    obtain ⟨rfl, rfl, rfl⟩ := hx0 (by rw [hre]; exact h0)
    subst hre
    have n1 : (r != 0) = true := by rw [bne_iff_ne]; exact h0
    clear hx hs1 hs2 hr hx0 h hp hkd he h0
    go_enter Try.func34, Try.ntmps34
    go_upto_region 1 with (fail)
    refine wp_gen (fun Wv => Bx Wv (w.heap.size) (24) (#[.int .i64 sl, .int .i64 g]) ∧ Bx Wv (w.heap.size + 1) (24) (#[.int .i64 0, .int .i64 0]) ∧ Below w.heap.size w Wv) ⟨(((Bx.at_ (by simp)).alloc _)), ((Bx.at_ (by simp))), (((Below.refl _ w).alloc (by simp <;> omega) _).alloc (by simp <;> omega) _)⟩ ?_
    rintro wa1 ⟨g1, g2, b⟩
    replace B := B.trans (b.mono B.size); clear b
    have c_g1 := g1.cell; have f_g1 := g1.free; have a_g1 := fun o => (g1.alloc o).cell; have d_g1 := fun o o2 => ((g1.alloc o).alloc o2).cell; have e_g1 := fun o => (g1.alloc o).free
    have c_g2 := g2.cell; have f_g2 := g2.free; have a_g2 := fun o => (g2.alloc o).cell; have d_g2 := fun o o2 => ((g2.alloc o).alloc o2).cell; have e_g2 := fun o => (g2.alloc o).free
    go_wp2_with fail
    refine (FT.out _ (H.out.below B)).mono ?_
    rintro e wa2 ⟨rfl, b⟩
    try clear c_g1 f_g1 a_g1 d_g1 e_g1
    replace g1 := g1.below b; have c_g1 := g1.cell; have f_g1 := g1.free; have a_g1 := fun o => (g1.alloc o).cell; have d_g1 := fun o o2 => ((g1.alloc o).alloc o2).cell; have e_g1 := fun o => (g1.alloc o).free; try clear c_g2 f_g2 a_g2 d_g2 e_g2
    replace g2 := g2.below b; have c_g2 := g2.cell; have f_g2 := g2.free; have a_g2 := fun o => (g2.alloc o).cell; have d_g2 := fun o o2 => ((g2.alloc o).alloc o2).cell; have e_g2 := fun o => (g2.alloc o).free; replace B := B.trans (b.mono B.size); clear b
    go_wp2
    refine bodyPost_ret (v := .tuple #[.slice none 0 0, .agg #[.int .i64 0, .int .i64 0], .int .i64 r]) (by simp [results, Try.results34, go_sem, c_g2, f_g2]) rfl ?_
    refine ⟨_, rfl, OwnE.nil _ _, ?_⟩
    (repeat (first | refine Below.setCell ?_ (by first | exact Nat.le_refl _ | (simp <;> omega)) _ | refine Below.alloc ?_ (by first | exact B.size | (have := B.size; simp <;> omega)) _)); exact B
  case pos =>
    subst h0
    by_cases h3 : kd.toNat = 3
    case neg =>
      have hre : r = 42 := by rw [hr, oiE, if_pos he.symm, ← hkd, if_neg h3]
      obtain ⟨rfl, rfl, rfl⟩ := hx0 (by rw [hre]; decide)
      subst hre
      have k3 : ((kd.toNat : Int) != 3) = true := by rw [bne_iff_ne]; omega
      clear hx hs1 hs2 hr hx0 h hp hkd he h3
      go_enter Try.func34, Try.ntmps34
      go_upto_region 1 with (fail)
      refine wp_gen (fun Wv => Bx Wv (w.heap.size) (24) (#[.int .i64 sl, .int .i64 g]) ∧ Bx Wv (w.heap.size + 1) (24) (#[.int .i64 0, .int .i64 0]) ∧ Below w.heap.size w Wv) ⟨(((Bx.at_ (by simp)).alloc _)), ((Bx.at_ (by simp))), (((Below.refl _ w).alloc (by simp <;> omega) _).alloc (by simp <;> omega) _)⟩ ?_
      rintro wa1 ⟨g1, g2, b⟩
      replace B := B.trans (b.mono B.size); clear b
      have c_g1 := g1.cell; have f_g1 := g1.free; have a_g1 := fun o => (g1.alloc o).cell; have d_g1 := fun o o2 => ((g1.alloc o).alloc o2).cell; have e_g1 := fun o => (g1.alloc o).free
      have c_g2 := g2.cell; have f_g2 := g2.free; have a_g2 := fun o => (g2.alloc o).cell; have d_g2 := fun o o2 => ((g2.alloc o).alloc o2).cell; have e_g2 := fun o => (g2.alloc o).free
      go_wp2_with fail
      refine (FT.out _ (H.out.below B)).mono ?_
      rintro e wa2 ⟨rfl, b⟩
      try clear c_g1 f_g1 a_g1 d_g1 e_g1
      replace g1 := g1.below b; have c_g1 := g1.cell; have f_g1 := g1.free; have a_g1 := fun o => (g1.alloc o).cell; have d_g1 := fun o o2 => ((g1.alloc o).alloc o2).cell; have e_g1 := fun o => (g1.alloc o).free; try clear c_g2 f_g2 a_g2 d_g2 e_g2
      replace g2 := g2.below b; have c_g2 := g2.cell; have f_g2 := g2.free; have a_g2 := fun o => (g2.alloc o).cell; have d_g2 := fun o o2 => ((g2.alloc o).alloc o2).cell; have e_g2 := fun o => (g2.alloc o).free; replace B := B.trans (b.mono B.size); clear b
      go_wp2
      refine bodyPost_ret (v := .tuple #[.slice none 0 0, .agg #[.int .i64 0, .int .i64 0], .int .i64 42]) (by simp [results, Try.results34, go_sem, c_g2, f_g2]) rfl ?_
      refine ⟨_, rfl, OwnE.nil _ _, ?_⟩
      (repeat (first | refine Below.setCell ?_ (by first | exact Nat.le_refl _ | (simp <;> omega)) _ | refine Below.alloc ?_ (by first | exact B.size | (have := B.size; simp <;> omega)) _)); exact B
    case pos =>
      have k3 : ((kd.toNat : Int) != 3) = false := by rw [bne_eq_false_iff_eq]; omega
      obtain ⟨k, a, nn, q, i, b, t, kd', x, rfl, rfl, fd⟩ := Fd.of he.symm
      have hpp : p = (a : Int) + 2 + (i : Int) := by rw [hp, fd.hAt]; omega
      have HX := Lib.hid fd.hx
      have hkk : kd = kd' := by rw [hkd, fd.hK]
      have hre : r = if x = 0 then 6 else L18.newErr l x.toNat := by rw [hr, oiE, if_pos he.symm, ← hkd, if_pos h3, fd.hW]
      subst hpp
      by_cases hx00 : x = 0
      · have hre6 : r = 6 := by rw [hre, if_pos hx00]
        obtain ⟨rfl, rfl, rfl⟩ := hx0 (by rw [hre6]; decide)
        subst hre6
        have z0 : ((x.toNat : Int) == 0) = true := by rw [hx00]; rfl
        clear hx hs1 hs2 hr hx0 h hp hkd he h3 fd hre hx00 hkk
        go_enter Try.func34, Try.ntmps34
        go_upto_region 1 with (fail)
        refine wp_gen (fun Wv => Bx Wv (w.heap.size) (24) (#[.int .i64 k, .int .i64 g]) ∧ Bx Wv (w.heap.size + 1) (24) (#[.int .i64 0, .int .i64 0]) ∧ Below w.heap.size w Wv) ⟨(((Bx.at_ (by simp)).alloc _)), ((Bx.at_ (by simp))), (((Below.refl _ w).alloc (by simp <;> omega) _).alloc (by simp <;> omega) _)⟩ ?_
        rintro wa1 ⟨g1, g2, b⟩
        replace B := B.trans (b.mono B.size); clear b
        have c_g1 := g1.cell; have f_g1 := g1.free; have a_g1 := fun o => (g1.alloc o).cell; have d_g1 := fun o o2 => ((g1.alloc o).alloc o2).cell; have e_g1 := fun o => (g1.alloc o).free
        have c_g2 := g2.cell; have f_g2 := g2.free; have a_g2 := fun o => (g2.alloc o).cell; have d_g2 := fun o o2 => ((g2.alloc o).alloc o2).cell; have e_g2 := fun o => (g2.alloc o).free
        go_wp2_with fail
        refine (FT.out _ (H.out.below B)).mono ?_
        rintro e wa2 ⟨rfl, b⟩
        try clear c_g1 f_g1 a_g1 d_g1 e_g1
        replace g1 := g1.below b; have c_g1 := g1.cell; have f_g1 := g1.free; have a_g1 := fun o => (g1.alloc o).cell; have d_g1 := fun o o2 => ((g1.alloc o).alloc o2).cell; have e_g1 := fun o => (g1.alloc o).free; try clear c_g2 f_g2 a_g2 d_g2 e_g2
        replace g2 := g2.below b; have c_g2 := g2.cell; have f_g2 := g2.free; have a_g2 := fun o => (g2.alloc o).cell; have d_g2 := fun o o2 => ((g2.alloc o).alloc o2).cell; have e_g2 := fun o => (g2.alloc o).free; replace B := B.trans (b.mono B.size); clear b
        obtain ⟨ad, x2, ia, m0, hx2⟩ := (H.out.below B).at_ (P := Try.prog) Try.underlying22 one_u64 (k := a + 2 + i) (List.getElem?_eq_some_iff.1 HX.out).1
        obtain rfl : x2 = x := by have := hx2.out; rw [HX.out] at this; injection this with e; exact e.symm
        have ia2 : ∀ W, (Instr.indexAt 22 v (.int .i64 ((a : Int) + 2 + (i : Int)))).run Try.prog W = .ok (.pointer (some ad)) W := ia
        clear hx2 ia
        go_wp2
        refine bodyPost_ret (v := .tuple #[.slice none 0 0, .agg #[.int .i64 0, .int .i64 0], .int .i64 6]) (by simp [results, Try.results34, go_sem, c_g2, f_g2]) rfl ?_
        refine ⟨_, rfl, OwnE.nil _ _, ?_⟩
        (repeat (first | refine Below.setCell ?_ (by first | exact Nat.le_refl _ | (simp <;> omega)) _ | refine Below.alloc ?_ (by first | exact B.size | (have := B.size; simp <;> omega)) _)); exact B
      · have z0 : ((x.toNat : Int) == 0) = false := by rw [beq_eq_false_iff_ne]; intro e; exact hx00 (UInt64.toNat.inj (by simp; omega))
        obtain ⟨hnc, hxb⟩ := new_cases fd (by rw [← hkk]; exact h3) hx00
        obtain ⟨e9, he9⟩ : ∃ e, e = L18.newErr l x.toNat := ⟨_, rfl⟩
        obtain ⟨s9, hs9⟩ : ∃ e, e = newSlot l x.toNat := ⟨_, rfl⟩
        obtain ⟨g9, hg9⟩ : ∃ e, e = newGen l x.toNat := ⟨_, rfl⟩
        obtain ⟨a9, ha9⟩ : ∃ e, e = newAt l x.toNat := ⟨_, rfl⟩
        obtain ⟨v9, hv9⟩ : ∃ e, e = newVal l x.toNat := ⟨_, rfl⟩
        have NT := Lib.hid (fun w h => New18_any v l x.toNat s9 g9 a9 v9 e9 hs9 hg9 ha9 hv9 he9 w h)
        have hre9 : r = e9 := by rw [hre, if_neg hx00, he9]
        have hw9 : IntKind.i64.wrap (x.toNat : Int) = (x.toNat : Int) := IntWalk.i64_in _ (by omega)
        rw [← he9] at hnc
        by_cases he90 : e9 = 0
        case neg =>
          have he23 : e9 = 23 := hnc.resolve_left he90
          obtain ⟨rfl, rfl, rfl⟩ := hx0 (by rw [hre9]; exact he90)
          subst hre9; subst he23
          clear hx hs1 hs2 hr hx0 h hp hkd he h3 fd hre hx00 hkk he9 hs9 hg9 ha9 hv9 hnc he90
          go_enter Try.func34, Try.ntmps34
          go_upto_region 1 with (fail)
          refine wp_gen (fun Wv => Bx Wv (w.heap.size) (24) (#[.int .i64 k, .int .i64 g]) ∧ Bx Wv (w.heap.size + 1) (24) (#[.int .i64 0, .int .i64 0]) ∧ Below w.heap.size w Wv) ⟨(((Bx.at_ (by simp)).alloc _)), ((Bx.at_ (by simp))), (((Below.refl _ w).alloc (by simp <;> omega) _).alloc (by simp <;> omega) _)⟩ ?_
          rintro wa1 ⟨g1, g2, b⟩
          replace B := B.trans (b.mono B.size); clear b
          have c_g1 := g1.cell; have f_g1 := g1.free; have a_g1 := fun o => (g1.alloc o).cell; have d_g1 := fun o o2 => ((g1.alloc o).alloc o2).cell; have e_g1 := fun o => (g1.alloc o).free
          have c_g2 := g2.cell; have f_g2 := g2.free; have a_g2 := fun o => (g2.alloc o).cell; have d_g2 := fun o o2 => ((g2.alloc o).alloc o2).cell; have e_g2 := fun o => (g2.alloc o).free
          go_wp2_with fail
          refine (FT.out _ (H.out.below B)).mono ?_
          rintro e wa2 ⟨rfl, b⟩
          try clear c_g1 f_g1 a_g1 d_g1 e_g1
          replace g1 := g1.below b; have c_g1 := g1.cell; have f_g1 := g1.free; have a_g1 := fun o => (g1.alloc o).cell; have d_g1 := fun o o2 => ((g1.alloc o).alloc o2).cell; have e_g1 := fun o => (g1.alloc o).free; try clear c_g2 f_g2 a_g2 d_g2 e_g2
          replace g2 := g2.below b; have c_g2 := g2.cell; have f_g2 := g2.free; have a_g2 := fun o => (g2.alloc o).cell; have d_g2 := fun o o2 => ((g2.alloc o).alloc o2).cell; have e_g2 := fun o => (g2.alloc o).free; replace B := B.trans (b.mono B.size); clear b
          obtain ⟨ad, x2, ia, m0, hx2⟩ := (H.out.below B).at_ (P := Try.prog) Try.underlying22 one_u64 (k := a + 2 + i) (List.getElem?_eq_some_iff.1 HX.out).1
          obtain rfl : x2 = x := by have := hx2.out; rw [HX.out] at this; injection this with e; exact e.symm
          have ia2 : ∀ W, (Instr.indexAt 22 v (.int .i64 ((a : Int) + 2 + (i : Int)))).run Try.prog W = .ok (.pointer (some ad)) W := ia
          clear hx2 ia
          go_wp2_with fail
          refine (NT.out _ (H.out.below B)).mono ?_
          rintro e wa3 ⟨rfl, b⟩
          try clear c_g2 f_g2 a_g2 d_g2 e_g2
          replace g2 := g2.below b; have c_g2 := g2.cell; have f_g2 := g2.free; have a_g2 := fun o => (g2.alloc o).cell; have d_g2 := fun o o2 => ((g2.alloc o).alloc o2).cell; have e_g2 := fun o => (g2.alloc o).free; replace B := B.trans (b.mono B.size); clear b
          have hp2 := g2.lt
          go_upto_region 9 with (fail)
          refine wp_gen (fun Wv => Below wa3.heap.size wa3 Wv) (((Below.refl _ wa3).alloc (by simp <;> omega) _).alloc (by simp <;> omega) _) ?_
          intro wa4 b
          try clear c_g2 f_g2 a_g2 d_g2 e_g2
          replace g2 := g2.below b; have c_g2 := g2.cell; have f_g2 := g2.free; have a_g2 := fun o => (g2.alloc o).cell; have d_g2 := fun o o2 => ((g2.alloc o).alloc o2).cell; have e_g2 := fun o => (g2.alloc o).free; replace B := B.trans (b.mono B.size); clear b
          go_wp2
          refine bodyPost_ret (v := .tuple #[.slice none 0 0, .agg #[.int .i64 0, .int .i64 0], .int .i64 23]) (by simp [results, Try.results34, go_sem, c_g2, f_g2]) rfl ?_
          refine ⟨_, rfl, OwnE.nil _ _, ?_⟩
          (repeat (first | refine Below.setCell ?_ (by first | exact Nat.le_refl _ | (simp <;> omega)) _ | refine Below.alloc ?_ (by first | exact B.size | (have := B.size; simp <;> omega)) _)); exact B
        case pos =>
          subst he90
          subst hre9
          have hE : E = [(a9, v9)] := by rw [hx, oiL, if_pos hr.symm, fd.hW, ha9, hv9]
          have hS : s1 = s9 := by rw [hs1, oiS, if_pos hr.symm, fd.hW, hs9]
          have hG : s2 = g9 := by rw [hs2, oiG, if_pos hr.symm, fd.hW, hg9]
          subst hE; subst hS; subst hG
          clear hx hs1 hs2 hr hx0 h hp hkd he h3 fd hre hx00 hkk he9 hs9 hg9 ha9 hv9 hnc
          go_enter Try.func34, Try.ntmps34
          go_upto_region 1 with (fail)
          refine wp_gen (fun Wv => Bx Wv (w.heap.size) (24) (#[.int .i64 k, .int .i64 g]) ∧ Bx Wv (w.heap.size + 1) (24) (#[.int .i64 0, .int .i64 0]) ∧ Below w.heap.size w Wv) ⟨(((Bx.at_ (by simp)).alloc _)), ((Bx.at_ (by simp))), (((Below.refl _ w).alloc (by simp <;> omega) _).alloc (by simp <;> omega) _)⟩ ?_
          rintro wa1 ⟨g1, g2, b⟩
          replace B := B.trans (b.mono B.size); clear b
          have c_g1 := g1.cell; have f_g1 := g1.free; have a_g1 := fun o => (g1.alloc o).cell; have d_g1 := fun o o2 => ((g1.alloc o).alloc o2).cell; have e_g1 := fun o => (g1.alloc o).free
          have c_g2 := g2.cell; have f_g2 := g2.free; have a_g2 := fun o => (g2.alloc o).cell; have d_g2 := fun o o2 => ((g2.alloc o).alloc o2).cell; have e_g2 := fun o => (g2.alloc o).free
          go_wp2_with fail
          refine (FT.out _ (H.out.below B)).mono ?_
          rintro e wa2 ⟨rfl, b⟩
          try clear c_g1 f_g1 a_g1 d_g1 e_g1
          replace g1 := g1.below b; have c_g1 := g1.cell; have f_g1 := g1.free; have a_g1 := fun o => (g1.alloc o).cell; have d_g1 := fun o o2 => ((g1.alloc o).alloc o2).cell; have e_g1 := fun o => (g1.alloc o).free; try clear c_g2 f_g2 a_g2 d_g2 e_g2
          replace g2 := g2.below b; have c_g2 := g2.cell; have f_g2 := g2.free; have a_g2 := fun o => (g2.alloc o).cell; have d_g2 := fun o o2 => ((g2.alloc o).alloc o2).cell; have e_g2 := fun o => (g2.alloc o).free; replace B := B.trans (b.mono B.size); clear b
          obtain ⟨ad, x2, ia, m0, hx2⟩ := (H.out.below B).at_ (P := Try.prog) Try.underlying22 one_u64 (k := a + 2 + i) (List.getElem?_eq_some_iff.1 HX.out).1
          obtain rfl : x2 = x := by have := hx2.out; rw [HX.out] at this; injection this with e; exact e.symm
          have ia2 : ∀ W, (Instr.indexAt 22 v (.int .i64 ((a : Int) + 2 + (i : Int)))).run Try.prog W = .ok (.pointer (some ad)) W := ia
          clear hx2 ia
          go_wp2_with fail
          refine (NT.out _ (H.out.below B)).mono ?_
          rintro e wa3 ⟨rfl, b⟩
          try clear c_g2 f_g2 a_g2 d_g2 e_g2
          replace g2 := g2.below b; have c_g2 := g2.cell; have f_g2 := g2.free; have a_g2 := fun o => (g2.alloc o).cell; have d_g2 := fun o o2 => ((g2.alloc o).alloc o2).cell; have e_g2 := fun o => (g2.alloc o).free; replace B := B.trans (b.mono B.size); clear b
          have hp2 := g2.lt
          go_upto_region 9 with (fail)
          refine wp_gen (fun Wv => Bx Wv (wa3.heap.size) (24) (#[.int .i64 s1, .int .i64 s2]) ∧ Bx Wv (wa3.heap.size + 1) (47) (#[.int .i64 a9, .int .u64 v9.toNat]) ∧ Below wa3.heap.size wa3 Wv) ⟨(((Bx.at_ (by simp)).alloc _)), ((Bx.at_ (by simp))), (((Below.refl _ wa3).alloc (by simp <;> omega) _).alloc (by simp <;> omega) _)⟩ ?_
          rintro wa4 ⟨g7, g8, b⟩
          try clear c_g2 f_g2 a_g2 d_g2 e_g2
          replace g2 := g2.below b; have c_g2 := g2.cell; have f_g2 := g2.free; have a_g2 := fun o => (g2.alloc o).cell; have d_g2 := fun o o2 => ((g2.alloc o).alloc o2).cell; have e_g2 := fun o => (g2.alloc o).free; replace B := B.trans (b.mono B.size); clear b
          have c_g7 := g7.cell; have f_g7 := g7.free; have a_g7 := fun o => (g7.alloc o).cell; have d_g7 := fun o o2 => ((g7.alloc o).alloc o2).cell; have e_g7 := fun o => (g7.alloc o).free
          have c_g8 := g8.cell; have f_g8 := g8.free; have a_g8 := fun o => (g8.alloc o).cell; have d_g8 := fun o o2 => ((g8.alloc o).alloc o2).cell; have e_g8 := fun o => (g8.alloc o).free
          go_upto_region 11 with (fail)
          have hb4 := B.size
          have hne2 : w.heap.size + 1 ≠ wa3.heap.size := by omega
          clear a_g2 d_g2 e_g2 c_g2 f_g2 a_g7 d_g7 e_g7 f_g7 c_g7 a_g8 d_g8 e_g8 f_g8 c_g8
          have c_g7 := fun x : Fut _ => (g7.below x.h).cell
          have c_g8 := fun x : Fut _ => (g8.below x.h).cell
          refine wp_region_fblock 4 1 (fun p => .slice (some ⟨p, 0, none⟩) 1 1) 47 (#[.int .i64 a9, .int .u64 v9.toNat]) (mk_sl 1) (by kernel_rfl) (by kernel_rfl) (by kernel_rfl) ?_
          intro gg pq eq
          simp only [List.take_succ_cons, List.take_zero, List.drop_succ_cons, List.drop_zero]
          iterate 1 (refine wpH_read0 rfl rfl ?_; go_big_quiet_step (fail); refine wpQuiet_nil ?_)
          refine wpH_new rfl rfl (TS.block (Instr.buildSlice 32 1 #[(0, .agg #[.int .i64 a9, .int .u64 v9.toNat])]) (by simp [execOp, Act.eval]) (fun W => by simp [go_sem])) ?_
          rw [eq]
          simp only [Act.put, List.setIfInBounds_toArray, List.set_cons_zero, List.set_cons_succ]
          iterate 2 (refine wpH_read0 rfl rfl ?_; go_big_quiet_step (fail); refine wpQuiet_nil ?_)
          refine wpH_nil ?_
          intro W1 bW gq hpq
          have g3 := g2.below bW
          replace B := B.trans (bW.mono hb4)
          have c_g3 := g3.cell; have f_g3 := g3.free
          have HGQ := Lib.hid (And.intro gq (And.intro g3 B))
          clear c_g7 c_g8 g2 gq B
          go_wp2
          refine bodyPost_ret (v := .tuple #[.slice (some ⟨pq, 0, none⟩) 1 1, .agg #[.int .i64 s1, .int .i64 s2], .int .i64 0]) (by simp [results, Try.results34, go_sem, c_g3, f_g3]) rfl ?_
          obtain ⟨gq, g3, B⟩ := HGQ.out
          refine ⟨_, rfl, own_set (own_set (ent_bx gq (by omega)) g3 (by decide)) (g3.set _) (by decide), ?_⟩
          exact (B.setCell (p := ⟨w.heap.size + 1, 0, none⟩) (by simp) _).setCell (p := ⟨w.heap.size + 1, 1, none⟩) (by simp) _
end Go.Proofs.Ytiiilaojllmmiaa
namespace Go.Proofs.Ytiiilaojllmmiaa
open Go Go.RowKit
def dep2 (k0 k1 : Nat) (k : Nat) : List Nat := if k = k1 then [k0] else []
def Φ2 (k0 k1 : Nat) (Ψ0 Ψ1 : Value → World → Prop) (k : Nat) (g : Nat → Value) (W : World) : Prop := (k = k0 → Ψ0 (g k0) W) ∧ (k = k1 → Ψ1 (g k1) W)
def V2 (k0 k1 : Nat) (V0 V1 : Value → Prop) (k : Nat) (v : Value) : Prop := (k = k0 → V0 v) ∧ (k = k1 → V1 v)
theorem wp_region_f2 {P : Program} {id : Nat} {Q : Exit → Act → World → Prop} {a : Act} {w : World} {l : List Oper} (n k0 k1 : Nat) (V0 V1 : Value → Prop) (Ψ0 Ψ1 : Value → World → Prop) (hk : k0 ≠ k1) (e0 : ∃ v, V0 v) (e1 : ∃ v, V1 v)
    (hst0 : ∀ v W W', Ψ0 v W → Below W.heap.size W W' → Ψ0 v W') (hst1 : ∀ v W W', Ψ1 v W → Below W.heap.size W W' → Ψ1 v W')
    (hm : P.follows .mixedOrders = true) (hB : Region.lexTailB .any l.toArray n = true)
    (hnj : (([k0, k1] : List Nat).all fun k => decide (k < n) && match l.toArray[k]? with | some o => (dep2 k0 k1 k).all (fun j => ([k0, k1] : List Nat).contains j && o.after.any fun e => Region.binds .any e && e.on == j) | none => false) = true)
    (h : ∀ g, V0 (g k0) → V1 (g k1) → wpM P .any l.toArray (CH w [k0, k1] (dep2 k0 k1) (Φ2 k0 k1 Ψ0 Ψ1) g) (fun i => ([k0, k1] : List Nat).contains i) g (TS P w (dep2 k0 k1) (V2 k0 k1 V0 V1) (Φ2 k0 k1 Ψ0 Ψ1) g)
      (fun a' => ∀ W, Below w.heap.size w W → Ψ0 (g k0) W → Ψ1 (g k1) W → wpList P l.toArray Q (l.drop n) a' W) (l.take n) 0 a) : (Code.region id l.toArray true).wp P Q a w := by
  refine wp_region_ftail n [k0, k1] (dep2 k0 k1) (V2 k0 k1 V0 V1) (Φ2 k0 k1 Ψ0 Ψ1) hm hB hnj ?_ ?_ ?_ ?_
  · intro k hk g W W' h hb
    exact ⟨fun e => hst0 _ _ _ (h.1 e) hb, fun e => hst1 _ _ _ (h.2 e) hb⟩
  · intro k hk g g' W he h
    refine ⟨fun e => ?_, fun e => ?_⟩
    · subst e; rw [← he k (.inl rfl)]; exact h.1 rfl
    · subst e; rw [← he k (.inl rfl)]; exact h.2 rfl
  · intro k _
    obtain ⟨v0, h0⟩ := e0
    obtain ⟨v1, h1⟩ := e1
    by_cases e : k = k0
    · exact ⟨v0, fun _ => h0, fun e' => absurd (e.symm.trans e') hk⟩
    · exact ⟨v1, fun e' => absurd e' e, fun _ => h1⟩
  · intro g hV
    have h1 := h g ((hV k0 (by simp)).1 rfl) ((hV k1 (by simp)).2 rfl)
    have mono : ∀ (C : Array Bool → World → Prop) (nn : Nat → Bool) (T : Nat → Sem Next → Prop) (r : List Oper) (k : Nat) (a' : Act), wpM P .any l.toArray C nn g T
        (fun a' => ∀ W, Below w.heap.size w W → Ψ0 (g k0) W → Ψ1 (g k1) W → wpList P l.toArray Q (l.drop n) a' W) r k a' → wpM P .any l.toArray C nn g T
        (fun a' => ∀ W, Below w.heap.size w W → (∀ k ∈ [k0, k1], Φ2 k0 k1 Ψ0 Ψ1 k g W) → wpList P l.toArray Q (l.drop n) a' W) r k a' := by
      intro C nn T r
      induction r with
      | nil =>
        intro k a' h0 W hW hΦ
        exact h0 W hW ((hΦ k0 (by simp)).1 rfl) ((hΦ k1 (by simp)).2 rfl)
      | cons o r ih => intro k a' h0; obtain ⟨v, h1, h2⟩ := h0; exact ⟨v, h1, ih _ _ h2⟩
    exact mono _ _ _ _ _ _ h1
end Go.Proofs.Ytiiilaojllmmiaa
namespace Go.Proofs.Ytiiilaojllmmiaa
open Go.RowKit L01 L02 L05 L06 L07 L13 L14 L15 L18 L19
set_option maxHeartbeats 1000000 in
theorem own24_any (w : World) : Calls Try.prog 38 #[] w fun e w' => e = .returned (.agg #[.int .i64 0, .int .i64 1]) ∧ Below w.heap.size w w' := by
  have B : Below w.heap.size w w := Below.refl _ _
  go_enter Try.func38, Try.ntmps38
  go_wp2
  exact bodyPost_ret (v := .agg #[.int .i64 0, .int .i64 1]) (by simp [results, Try.results38, go_sem]) rfl ⟨rfl, B.alloc B.size _⟩
set_option maxHeartbeats 1000000 in
theorem one24_any (v : Value) (E : List (Int × UInt64)) (r a : Int) (x : UInt64) (q : Bool) (hq : q = (decide (r = 0) && decide (E = [(a, x)]))) (w : World) (h : Ents w v E) :
    Calls Try.prog 39 #[v, .int .i64 r, .int .i64 a, .int .u64 x.toNat] w fun e w' => e = .returned (.bool q) ∧ Below w.heap.size w w' := by
  have B : Below w.heap.size w w := Below.refl _ _
  have H := Lib.hid h
  by_cases h0 : r = 0
  case neg =>
    obtain rfl : q = false := by rw [hq, decide_eq_false h0, Bool.false_and]
    have n1 : (r == 0) = false := by rw [beq_eq_false_iff_ne]; exact h0
    clear h hq h0
    go_enter Try.func39, Try.ntmps39
    go_wp2
    go_ret
    exact ⟨rfl, B⟩
  case pos =>
    subst h0
    have SM := Lib.hid (fun va vb w ha hb => Same22_any va vb E [(a, x)] q (by rw [hq]; simp) w ha hb)
    clear h hq
    go_enter Try.func39, Try.ntmps39
    go_wp2_with fail
    refine (SM.out _ _ _ (Rd.alloc H.out _) (ent_own (Nat.le_refl _)).rd).mono ?_
    rintro e w2 ⟨rfl, b⟩
    have hal := B.alloc B.size (.cells #[.int .i64 a, .int .u64 x.toNat] 47)
    replace B := hal.trans (b.mono hal.size)
    go_wp2
    go_ret
    exact ⟨rfl, B⟩
theorem enter_example24 (W : World) : (callFunc 36 (#[] ++ #[] ++ #[])).run Try.prog W = .ok (.enter 36 #[]) W := by
  simp [go_sem]
theorem enter_set24 (a b c d : Value) (W : World) : (callFunc 17 (#[] ++ #[a, b, c, d] ++ #[])).run Try.prog W = .ok (.enter 17 #[a, b, c, d]) W := by
  simp [go_sem]
theorem enter_setref24 (a b c d : Value) (W : World) : (callFunc 33 (#[] ++ #[a, b, c, d] ++ #[])).run Try.prog W = .ok (.enter 33 #[a, b, c, d]) W := by
  simp [go_sem]
set_option maxRecDepth 100000 in
set_option maxHeartbeats 4000000 in
theorem alive24_any (w : World) : Calls Try.prog 13 #[] w fun e w' => e = .returned (.bool true) ∧ Below w.heap.size w w' := by
  have B : Below w.heap.size w w := Below.refl _ _
  have EX := Lib.hid (fun w => example24_any w)
  obtain ⟨l, hl⟩ : ∃ l, l = ex24 := ⟨_, rfl⟩
  have S0 := ex24_set; have S1 := ex24_ref; have S2 := ex24_type
  rw [← hl] at EX S0 S1 S2
  have T1 := Lib.hid (fun v w h => Set24_any v l 0 1 0 7 [(142, 7)] 0 S0.2.symm S0.1.symm w h)
  have T2 := Lib.hid (fun v pv w h hp => SetRef24_any v pv l 0 1 1 (some (0, 1)) [(143, 140)] 0 S1.2.symm S1.1.symm w h hp)
  have T3 := Lib.hid (fun v w h => Set24_any v l 0 1 1 7 [] 42 S2.2.symm S2.1.symm w h)
  have O1 := Lib.hid (fun v w h => one24_any v [(142, 7)] 0 142 7 true (by decide) w h)
  have O2 := Lib.hid (fun v w h => one24_any v [(143, 140)] 0 143 140 true (by decide) w h)
  clear hl S0 S1 S2
  go_enter Try.func13, Try.ntmps13
  go_wp2_with fail
  refine (own24_any _).mono ?_
  rintro e wa1 ⟨rfl, b⟩
  replace B := B.trans (b.mono B.size); clear b
  go_upto_region 2 with (fail)
  refine wp_gen (fun Wv => Bx Wv (wa1.heap.size) (24) (#[.int .i64 0, .int .i64 1]) ∧ Below wa1.heap.size wa1 Wv) ⟨((Bx.at_ (by simp))), ((Below.refl _ wa1).alloc (by simp <;> omega) _)⟩ ?_
  rintro wa2 ⟨g1, b⟩
  replace B := B.trans (b.mono B.size); clear b
  have c_g1 := g1.cell; have f_g1 := g1.free; have a_g1 := fun o => (g1.alloc o).cell; have d_g1 := fun o o2 => ((g1.alloc o).alloc o2).cell; have e_g1 := fun o => (g1.alloc o).free
  clear c_g1 f_g1 a_g1 d_g1 e_g1
  have hz2 := B.size
  have c_1 := fun x : Fut wa2 => (g1.below x.h).cell
  refine wp_region_f2 7 0 2 (fun _ => True) (fun v => ∃ y, v = .tuple #[y, .int .i64 0]) (fun v W => OwnW W wa2.heap.size 25 v l) (fun v W => ∃ y, v = .tuple #[y, .int .i64 0] ∧ Ents W y [(142, 7)]) (by decide) ⟨undef, trivial⟩ ⟨_, undef, rfl⟩ (fun v W W' h b => h.below b) (fun v W W' ⟨y, h1, h2⟩ b => ⟨y, h1, h2.below b⟩) (by kernel_rfl) (by kernel_rfl) (by kernel_rfl) ?_
  intro gg _ hv1
  obtain ⟨y2, hy1⟩ := hv1
  simp only [List.take_succ_cons, List.take_zero, List.drop_succ_cons, List.drop_zero]
  refine wpH_new rfl rfl (TS.call (av := #[]) (by simp [Act.eval]) (fun W => enter_example24 W) ?_) ?_
  · intro W hW _
    refine (EX.out W).mono ?_
    rintro e W' ⟨x, rfl, o, bb⟩
    exact ⟨_, rfl, ⟨fun _ => trivial, fun e => (by cases e)⟩, bb, fun g' hg' _ => ⟨fun _ => by rw [hg']; exact own_mono o hW.size, fun e => (by cases e)⟩⟩
  simp only [Act.put, List.setIfInBounds_toArray, List.set_cons_zero, List.set_cons_succ]
  iterate 1 (refine wpH_read0 rfl rfl ?_; go_big_quiet_step (fail); refine wpQuiet_nil ?_)
  refine wpH_new rfl rfl (TS.call (av := #[gg 0, .agg #[.int .i64 0, .int .i64 1], .int .i64 0, .int .u64 7]) (by simp [Act.eval]) (fun W => enter_set24 _ _ _ _ W) ?_) ?_
  · intro W hW hd
    have o0 := (hd 0 (by simp [dep2])).1 rfl
    refine (T1.out _ W o0.rd).mono ?_
    rintro e W' ⟨y, rfl, o, bb⟩
    exact ⟨_, rfl, ⟨fun e => (by cases e), fun _ => ⟨y, rfl⟩⟩, bb, fun g' hg' _ => ⟨fun e => (by cases e), fun _ => ⟨y, hg', o.rd⟩⟩⟩
  rw [hy1]
  simp only [Act.put, List.setIfInBounds_toArray, List.set_cons_zero, List.set_cons_succ]
  iterate 4 (refine wpH_read0 rfl rfl ?_; go_big_quiet_step (fail); refine wpQuiet_nil ?_)
  refine wpH_nil ?_
  intro W2 bW _ o1
  obtain ⟨y, e1, q2⟩ := o1
  try rw [hy1] at e1
  obtain rfl : y2 = y := by injection e1 with e1; injection e1 with e1; injection e1
  clear c_1 hy1 e1
  replace g1 := g1.below bW
  replace B := B.trans (bW.mono hz2)
  clear bW hz2
  go_upto_region 3 with (fail)
  have hz3 := B.size
  have c_1 := fun x : Fut W2 => (g1.below x.h).cell
  refine wp_region_f2 7 0 2 (fun _ => True) (fun v => ∃ y, v = .tuple #[y, .int .i64 0]) (fun v W => OwnW W W2.heap.size 25 v l) (fun v W => ∃ y, v = .tuple #[y, .int .i64 0] ∧ Ents W y [(143, 140)]) (by decide) ⟨undef, trivial⟩ ⟨_, undef, rfl⟩ (fun v W W' h b => h.below b) (fun v W W' ⟨y, h1, h2⟩ b => ⟨y, h1, h2.below b⟩) (by kernel_rfl) (by kernel_rfl) (by kernel_rfl) ?_
  intro gg _ hv1
  obtain ⟨y3, hy1⟩ := hv1
  simp only [List.take_succ_cons, List.take_zero, List.drop_succ_cons, List.drop_zero]
  refine wpH_new rfl rfl (TS.call (av := #[]) (by simp [Act.eval]) (fun W => enter_example24 W) ?_) ?_
  · intro W hW _
    refine (EX.out W).mono ?_
    rintro e W' ⟨x, rfl, o, bb⟩
    exact ⟨_, rfl, ⟨fun _ => trivial, fun e => (by cases e)⟩, bb, fun g' hg' _ => ⟨fun _ => by rw [hg']; exact own_mono o hW.size, fun e => (by cases e)⟩⟩
  simp only [Act.put, List.setIfInBounds_toArray, List.set_cons_zero, List.set_cons_succ]
  iterate 1 (refine wpH_read0 rfl rfl ?_; go_big_quiet_step (fail); refine wpQuiet_nil ?_)
  refine wpH_new rfl rfl (TS.call (av := #[gg 0, .agg #[.int .i64 0, .int .i64 1], .int .i64 1, .pointer (some ⟨wa1.heap.size, 0, none⟩)]) (by simp [Act.eval]) (fun W => enter_setref24 _ _ _ _ W) ?_) ?_
  · intro W hW hd
    have o0 := (hd 0 (by simp [dep2])).1 rfl
    refine (T2.out _ _ W o0.rd ⟨_, rfl, g1.below hW⟩).mono ?_
    rintro e W' ⟨y, rfl, o, bb⟩
    exact ⟨_, rfl, ⟨fun e => (by cases e), fun _ => ⟨y, rfl⟩⟩, bb, fun g' hg' _ => ⟨fun e => (by cases e), fun _ => ⟨y, hg', o.rd⟩⟩⟩
  rw [hy1]
  simp only [Act.put, List.setIfInBounds_toArray, List.set_cons_zero, List.set_cons_succ]
  iterate 4 (refine wpH_read0 rfl rfl ?_; go_big_quiet_step (fail); refine wpQuiet_nil ?_)
  refine wpH_nil ?_
  intro W3 bW _ o1
  obtain ⟨y, e1, q3⟩ := o1
  try rw [hy1] at e1
  obtain rfl : y3 = y := by injection e1 with e1; injection e1 with e1; injection e1
  clear c_1 hy1 e1
  replace q2 := Rd.below q2 bW
  replace g1 := g1.below bW
  replace B := B.trans (bW.mono hz3)
  clear bW hz3
  go_upto_region 4 with (fail)
  have hz4 := B.size
  have c_1 := fun x : Fut W3 => (g1.below x.h).cell
  refine wp_region_f2 7 0 2 (fun _ => True) (fun v => ∃ y, v = .tuple #[y, .int .i64 42]) (fun v W => OwnW W W3.heap.size 25 v l) (fun v W => ∃ y, v = .tuple #[y, .int .i64 42] ∧ Ents W y ([] : List (Int × UInt64))) (by decide) ⟨undef, trivial⟩ ⟨_, undef, rfl⟩ (fun v W W' h b => h.below b) (fun v W W' ⟨y, h1, h2⟩ b => ⟨y, h1, h2.below b⟩) (by kernel_rfl) (by kernel_rfl) (by kernel_rfl) ?_
  intro gg _ hv1
  obtain ⟨y4, hy1⟩ := hv1
  simp only [List.take_succ_cons, List.take_zero, List.drop_succ_cons, List.drop_zero]
  refine wpH_new rfl rfl (TS.call (av := #[]) (by simp [Act.eval]) (fun W => enter_example24 W) ?_) ?_
  · intro W hW _
    refine (EX.out W).mono ?_
    rintro e W' ⟨x, rfl, o, bb⟩
    exact ⟨_, rfl, ⟨fun _ => trivial, fun e => (by cases e)⟩, bb, fun g' hg' _ => ⟨fun _ => by rw [hg']; exact own_mono o hW.size, fun e => (by cases e)⟩⟩
  simp only [Act.put, List.setIfInBounds_toArray, List.set_cons_zero, List.set_cons_succ]
  iterate 1 (refine wpH_read0 rfl rfl ?_; go_big_quiet_step (fail); refine wpQuiet_nil ?_)
  refine wpH_new rfl rfl (TS.call (av := #[gg 0, .agg #[.int .i64 0, .int .i64 1], .int .i64 1, .int .u64 7]) (by simp [Act.eval]) (fun W => enter_set24 _ _ _ _ W) ?_) ?_
  · intro W hW hd
    have o0 := (hd 0 (by simp [dep2])).1 rfl
    refine (T3.out _ W o0.rd).mono ?_
    rintro e W' ⟨y, rfl, o, bb⟩
    exact ⟨_, rfl, ⟨fun e => (by cases e), fun _ => ⟨y, rfl⟩⟩, bb, fun g' hg' _ => ⟨fun e => (by cases e), fun _ => ⟨y, hg', o.rd⟩⟩⟩
  rw [hy1]
  simp only [Act.put, List.setIfInBounds_toArray, List.set_cons_zero, List.set_cons_succ]
  iterate 4 (refine wpH_read0 rfl rfl ?_; go_big_quiet_step (fail); refine wpQuiet_nil ?_)
  refine wpH_nil ?_
  intro W4 bW _ o1
  obtain ⟨y, e1, q4⟩ := o1
  try rw [hy1] at e1
  obtain rfl : y4 = y := by injection e1 with e1; injection e1 with e1; injection e1
  clear c_1 hy1 e1
  replace q2 := Rd.below q2 bW
  replace q3 := Rd.below q3 bW
  replace g1 := g1.below bW
  replace B := B.trans (bW.mono hz4)
  clear bW hz4
  clear q4
  go_wp2_with fail
  refine (O1.out _ _ q2).mono ?_
  rintro e wa3 ⟨rfl, b⟩
  replace q2 := q2.below b; replace q3 := q3.below b; replace B := B.trans (b.mono B.size); clear b
  go_wp2_with fail
  refine (O2.out _ _ q3).mono ?_
  rintro e wa4 ⟨rfl, b⟩
  replace q2 := q2.below b; replace q3 := q3.below b; replace B := B.trans (b.mono B.size); clear b
  go_wp2
  go_ret
  exact ⟨rfl, B⟩
end Go.Proofs.Ytiiilaojllmmiaa
namespace Go.Proofs.Ytiiilaojllmmiaa
open Go.RowKit L01 L02 L05 L06 L07 L13 L14 L15 L18 L19 L20
end Go.Proofs.Ytiiilaojllmmiaa
namespace Go.Proofs.Ytiiilaojllmmiaa
open Go.RowKit L01 L02 L05 L06 L07 L13 L14 L15 L18 L19 L20
end Go.Proofs.Ytiiilaojllmmiaa
namespace Go.Proofs.Ytiiilaojllmmiaa
open Go.RowKit Go.Maps L02 L13 L18 L20
/-- .. that has just n entries, those whose keys K tells -/
def MapN (P : Program) (k e : TypeId) (z0 : Lit) (W : World) (g n : Nat) (f : Int → Lit) (K : Int → Bool) : Prop :=
  ∃ D : DataW Unit, W.ownsMap P k (plainElem P e) g n D ∧ (∀ a, D.atKey (.int .i64 a) (.lit z0) = .lit (f a)) ∧ size D = n ∧ ∀ a, has D (.int .i64 a) = K a
section
variable {P : Program} {k e : TypeId} {z0 : Lit} {W : World} {g n : Nat} {f : Int → Lit} {K : Int → Bool}
theorem MapN.mapL (h : MapN P k e z0 W g n f K) : MapL P k e z0 W g n f := by obtain ⟨D, h1, h2, _⟩ := h; exact ⟨D, h1, h2⟩
theorem MapN.made (W : World) : MapN P k e z0 (W.alloc (.map #[] 0)) W.heap.size 0 (fun _ => z0) (fun _ => false) :=
  ⟨.map [], World.ownsMap_made W P k _, fun a => rfl, rfl, fun a => rfl⟩
theorem MapN.kept {W' : World} {row : Option Nat} (h : MapN P k e z0 W g n f K) (hg : W.grownBy W' row) (hne : some g ≠ row) : MapN P k e z0 W' g n f K := by
  obtain ⟨D, h1, h2⟩ := h; exact ⟨D, h1.kept hg hne, h2⟩
theorem MapN.below {W' : World} (h : MapN P k e z0 W g n f K) (hb : Below W.heap.size W W') : MapN P k e z0 W' g n f K := by
  obtain ⟨D, ⟨es, clock, hh, F, hs, hD⟩, h2⟩ := h
  exact ⟨D, ⟨es, clock, (hb.block g (Array.getElem?_eq_some_iff.1 hh).1).trans hh, F, hs, hD⟩, h2⟩
theorem MapL.block (h : MapL P k e z0 W g n f) : ∃ es clock, W.heap[g]? = some (.map es clock) := by
  obtain ⟨D, ⟨es, clock, hh, _⟩, _⟩ := h; exact ⟨es, clock, hh⟩
theorem MapN.len {t : TypeId} (h : MapN P k e z0 W g n f K) (ht : P.underlying t = some (.map k e)) : ∀ ty, (Builtin.len_ #[t] ty #[.map (some g)]).run P W = .ok (.int .i64 (n : Int)) W := by
  obtain ⟨D, h1, _, h3, _⟩ := h
  intro ty
  rw [h1.len ht ty, h3]
theorem MapN.put {t : TypeId} (h : MapN P k e z0 W g n f K) (hk : P.underlying k = some (.int .i64)) (ht : P.underlying t = some (.map k e)) (hn : n < maxLen) {a : Int} (ha : i64Ok a) (hK : K a = false) {v : Value} {l : Lit} (hv : plainElem (H := Unit) P e v = some (.lit l, [])) :
    ∃ W', (Instr.mapUpdate t (.map (some g)) (.int .i64 a) v).run P W = .ok () W' ∧ MapN P k e z0 W' g (n + 1) (fun b => if b = a then l else f b) (fun b => decide (b = a) || K b) ∧ W.grownBy W' (some g) := by
  obtain ⟨D, h1, h2, h3, h4⟩ := h
  obtain ⟨W', r1, r2, r3⟩ := h1.update (int_keyed hk) ht hn (keyOf_int_mk hk (lit_wf ha)) hv
  refine ⟨W', r1, ⟨_, r2, fun b => ?_, ?_, fun b => ?_⟩, r3⟩
  · by_cases hb : b = a
    · subst hb
      show _ = DataW.lit (if b = b then l else f b)
      rw [if_pos rfl]
      exact atKey_put_same (h1.isMap) ((int_keyed hk).key (keyOf_int_mk hk (lit_wf ha))) _ _
    · show _ = DataW.lit (if b = a then l else f b)
      rw [if_neg hb, atKey_put_other (by intro e; injection e with _ e; exact hb e), h2]
  · rw [size_put (h1.tidy (int_keyed hk)), h4, hK, h3]; rfl
  · by_cases hb : b = a
    · subst hb
      rw [has_put_same h1.isMap ((int_keyed hk).key (keyOf_int_mk hk (lit_wf ha)))]; simp
    · rw [has_put_other (by intro e; injection e with _ e; exact hb e), h4]; simp [hb]
/-- a store at the operation, for the walk -/
theorem wpList_mapPutN {ops : Array Oper} {rest : List Oper} {o : Oper} {a : Act} {Q : Exit → Act → World → Prop} (hg : o.guard = none) {m x v : Operand} {t : TypeId} (hop : o.op = Op.mapUpdate t m x v) (hk : P.underlying k = some (.int .i64)) (ht : P.underlying t = some (.map k e))
    (hm : a.eval m = .map (some g)) {key : Int} {val : Value} {l : Lit} (hx : a.eval x = .int .i64 key) (hv : a.eval v = val) (h : MapN P k e z0 W g n f K) (hn : n < maxLen) (hkey : i64Ok key) (hK : K key = false) (hval : plainElem (H := Unit) P e val = some (.lit l, []))
    (hC : ∀ W', MapN P k e z0 W' g (n + 1) (fun b => if b = key then l else f b) (fun b => decide (b = key) || K b) → W.grownBy W' (some g) → wpList P ops Q rest (a.put o.dst undef) W') : wpList P ops Q (o :: rest) a W := by
  refine wpList_plain hg fun K' hK' => ?_
  obtain ⟨W', hrun, r1, r2⟩ := h.put hk ht hn hkey hK hval
  unfold Oper.wp
  simp [execOp, hop, hm, hx, hv, hrun, Result.andThen]
  exact hK' _ _ (hC W' r1 r2)
/-- a row does not lie in a map's block -/
theorem own_ne_map {B e' sz n' : Nat} {v : Value} {xs : List Value} {es : Array MapEntry} {clock : Nat} (h : W.ownsRow B e' sz v n' xs) (hm : W.heap[g]? = some (.map es clock)) : v.ownBlock = none ∨ v.ownBlock ≠ some g := by
  rcases h.2 with ⟨rfl, _⟩ | ⟨g', cap, cur, rfl, _, hg', _⟩
  · exact .inl rfl
  · refine .inr ?_
    intro he
    simp [Value.ownBlock] at he
    subst he
    rw [hg'] at hm
    injection hm with hm
    cases hm
theorem Bx.ne_map {p : Nat} {t : TypeId} {cs : Array Value} {es : Array MapEntry} {clock : Nat} (h : Bx W p t cs) (hm : W.heap[g]? = some (.map es clock)) : g ≠ p := by
  rintro rfl
  unfold Bx at h
  rw [h] at hm
  injection hm with hm
  cases hm
theorem row_keptM {W' : World} {B e' sz n' : Nat} {v : Value} {xs : List Value} {es : Array MapEntry} {clock : Nat} (h : W.ownsRow B e' sz v n' xs) (hm : W.heap[g]? = some (.map es clock)) (hg : W.grownBy W' (some g)) : W'.ownsRow B e' sz v n' xs :=
  World.ownsRow.kept h hg (own_ne_map h hm)
theorem OwnT.keptM {W' : World} {B : Nat} {v : Value} {L : List (List UInt8)} {es : Array MapEntry} {clock : Nat} (h : OwnT W B v L) (hm : W.heap[g]? = some (.map es clock)) (hg : W.grownBy W' (some g)) : OwnT W' B v L := by
  obtain ⟨vs, a1, a2, a4⟩ := h
  exact ⟨vs, a1, row_keptM a2 hm hg, fun i x l h5 h6 => row_keptM (a4 i x l h5 h6) hm hg⟩
theorem Bx.keptM {W' : World} {p : Nat} {t : TypeId} {cs : Array Value} {es : Array MapEntry} {clock : Nat} (h : Bx W p t cs) (hm : W.heap[g]? = some (.map es clock)) (hg : W.grownBy W' (some g)) : Bx W' p t cs :=
  h.grown hg (.inr (fun e => h.ne_map hm (by injection e)))
end
end Go.Proofs.Ytiiilaojllmmiaa
