/- Contracts of the functions that the laws 'B' reach, part 13. No condition. -/
import Derived.Test.YtmbokdnndlnjkaaMBl
set_option linter.unusedVariables false
set_option linter.unusedSimpArgs false
namespace Go.Proofs.Ytmbokdnndlnjkaa
open Go.RowKit L02 L13 L18 L20
/-- what is asked of a field, as the code asks it -/
theorem fd_split (n : Nat) (k : UInt8) (v : UInt64) : (¬ FdOk n k v ∧ k.toNat = 2 ∧ ¬ FloatOk v) ∨ (¬ FdOk n k v ∧ k.toNat = 3 ∧ n < v.toNat) ∨ (FdOk n k v ∧ k.toNat = 2 ∧ FloatOk v) ∨ (FdOk n k v ∧ k.toNat = 3 ∧ v.toNat ≤ n) ∨ (FdOk n k v ∧ k.toNat ≠ 2 ∧ k.toNat ≠ 3) := by
  unfold FdOk
  by_cases h2 : k.toNat = 2
  · by_cases hf : FloatOk v
    · exact .inr (.inr (.inl ⟨⟨fun _ => hf, fun h => by omega⟩, h2, hf⟩))
    · exact .inl ⟨fun h => hf (h.1 h2), h2, hf⟩
  · by_cases h3 : k.toNat = 3
    · by_cases hv : v.toNat ≤ n
      · exact .inr (.inr (.inr (.inl ⟨⟨fun h => by omega, fun _ => hv⟩, h3, hv⟩)))
      · exact .inr (.inl ⟨fun h => hv (h.2 h3), h3, by omega⟩)
    · exact .inr (.inr (.inr (.inr ⟨⟨fun h => by omega, fun h => by omega⟩, h2, h3⟩)))
set_option maxRecDepth 100000 in
set_option maxHeartbeats 4000000 in
theorem object_any (tv ov sv x : Value) (m : Mo) (o : Ob) (b : Bool) (hb : b = decide (ObOk m.types m.objs.length o)) (w : World) (h : Mod w tv ov sv m) (hx : Words w x o.fs) :
    Calls Try.prog 108 #[.agg #[tv, ov, sv], .agg #[.int .i64 o.ty, x]] w fun e w' => e = .returned (.bool b) ∧ Below w.heap.size w w' := by
  have B : Below w.heap.size w w := Below.refl _ _
  have lt := h.t.len; have lo := h.o.len; have lx := Rd.len hx Try.underlying22
  have lo' := h.o.len_le; have lx' := Rd.len_le hx
  obtain ⟨NT, hNT⟩ : ∃ N, N = m.types.length := ⟨_, rfl⟩
  obtain ⟨NO, hNO⟩ : ∃ N, N = m.objs.length := ⟨_, rfl⟩
  obtain ⟨n, hn⟩ : ∃ N, N = o.fs.length := ⟨_, rfl⟩
  rw [← hNT] at lt; rw [← hNO] at lo lo' hb; rw [← hn] at lx lx'
  have H := Lib.hid h; have HX := Lib.hid hx; have HNT := Lib.hid hNT; have HN := Lib.hid hn
  clear h hx hNO
  by_cases hty : 0 ≤ o.ty ∧ o.ty < NT
  · obtain ⟨k, hk⟩ := Int.eq_ofNat_of_zero_le hty.1
    rw [hk] at hty ⊢
    have hkt : k < m.types.length := by omega
    obtain ⟨ad, y, t, iy, m0, ht, hby⟩ := H.out.t.at_ hkt
    have ht' : ty m.types o = t := by rw [ty, hk]; simp [List.getD_eq_getElem?_getD, ht.out]
    have ly := Rd.len hby.out Try.underlying28
    obtain ⟨nt, hnt⟩ : ∃ N, N = t.length := ⟨_, rfl⟩
    rw [← hnt] at ly
    have HNt := Lib.hid hnt
    have ha : decide ((k : Int) < 0) = false := by rw [decide_eq_false_iff_not]; omega
    have hb1 : decide ((NT : Int) ≤ (k : Int)) = false := by rw [decide_eq_false_iff_not]; omega
    have hb2 : decide (NT ≤ k) = false := by rw [decide_eq_false_iff_not]; omega
    by_cases hl : n = nt
    · have hc : ((n : Int) != (nt : Int)) = false := by rw [bne_eq_false_iff_eq]; omega
      have hok : b = decide (∀ i, i < n → FdOk NO (t.getD i 0) (o.fs.getD i 0)) := by
        rw [hb]
        congr 1
        rw [eq_iff_iff, ObOk, ht']
        refine ⟨fun hh i hi => hh.2.2 i (by omega), fun hh => ⟨by omega, by omega, fun i hi => hh i (by omega)⟩⟩
      have HOK := Lib.hid hok; have HL := Lib.hid hl
      clear hb hok ht' hkt hNT hn hnt hl
      go_enter Try.func108, Try.ntmps108
      go_upto_region 1 with (fail)
      refine wp_gen (fun Wv => Bx Wv (w.heap.size) (85) (#[tv, ov, sv]) ∧ Bx Wv (w.heap.size + 1) (135) (#[.int .i64 (k : Int), x]) ∧ Below w.heap.size w Wv) ⟨(((Bx.at_ (by simp)).alloc _)), ((Bx.at_ (by simp))), (((Below.refl _ w).alloc (by simp <;> omega) _).alloc (by simp <;> omega) _)⟩ ?_
      rintro wa1 ⟨g1, g2, b⟩
      replace m0 := cell_later b m0; replace B := B.trans (b.mono B.size); clear b
      have c_g1 := g1.cell; have f_g1 := g1.free; have a_g1 := fun o => (g1.alloc o).cell; have d_g1 := fun o o2 => ((g1.alloc o).alloc o2).cell; have e_g1 := fun o => (g1.alloc o).free
      have c_g2 := g2.cell; have f_g2 := g2.free; have a_g2 := fun o => (g2.alloc o).cell; have d_g2 := fun o o2 => ((g2.alloc o).alloc o2).cell; have e_g2 := fun o => (g2.alloc o).free
      refine wp_region_calm (by kernel_rfl) (by kernel_rfl) ?_
      try clear c_g1 f_g1 a_g1 d_g1 e_g1
      have c_g1 := fun x : Fut _ => (g1.below x.h).cell
      try clear c_g2 f_g2 a_g2 d_g2 e_g2
      have c_g2 := fun x : Fut _ => (g2.below x.h).cell
      have c_m0 := fun x : Fut _ => cell_later x.h m0
      repeat (go_big_quiet_step (fail))
      refine wpQuiet_nil ?_
      intro _ hw'
      obtain ⟨xq, hw''⟩ := hw'
      subst hw''
      clear c_m0; replace m0 := cell_later xq.h m0
      clear c_g1; replace g1 := g1.below xq.h; have c_g1 := g1.cell; have f_g1 := g1.free; have a_g1 := fun o => (g1.alloc o).cell; have d_g1 := fun o o2 => ((g1.alloc o).alloc o2).cell; have e_g1 := fun o => (g1.alloc o).free
      clear c_g2; replace g2 := g2.below xq.h; have c_g2 := g2.cell; have f_g2 := g2.free; have a_g2 := fun o => (g2.alloc o).cell; have d_g2 := fun o o2 => ((g2.alloc o).alloc o2).cell; have e_g2 := fun o => (g2.alloc o).free
      replace B := B.trans (xq.h.mono B.size)
      go_wp2
      have HB := Lib.hid B; have HG1 := Lib.hid g1; have HG2 := Lib.hid g2
      clear B g1 g2 m0 c_g1 c_g2 f_g1 f_g2 a_g1 a_g2 d_g1 d_g2 e_g1 e_g2
      go_loopg [39] n (fun g i wr => ∃ j : Nat, j ≤ n ∧ g = n - j ∧ i = .int .i64 j ∧ Hid ((∀ i, i < j → FdOk NO (t.getD i 0) (o.fs.getD i 0)) ∧ Bx wr w.heap.size 85 #[tv, ov, sv] ∧ Bx wr (w.heap.size + 1) 135 #[.int .i64 (k : Int), x] ∧ Below w.heap.size w wr))
      case atStart => exact ⟨0, by omega, by omega, rfl, Lib.hid ⟨fun i hi => by omega, HG1.out, HG2.out, HB.out⟩⟩
      case round =>
        obtain ⟨j, hj, rfl, rfl, hh⟩ := hrel
        by_cases hlt : j < n
        · have g1 := hh.out.2.1; have g2 := hh.out.2.2.1
          have c_g1 := g1.cell; have c_g2 := g2.cell
          obtain ⟨bd, kk, ib, m1, hkk⟩ := (hby.out.below hh.out.2.2.2).at_ (P := Try.prog) Try.underlying28 one_u8 (k := j) (by have := HNt.out; have := HL.out; omega)
          obtain ⟨cd, v, ic, m2, hv⟩ := (HX.out.below hh.out.2.2.2).at_ (P := Try.prog) Try.underlying22 one_u64 (k := j) (by have := HN.out; omega)
          have ek : t.getD j 0 = kk := by simp [List.getD_eq_getElem?_getD, hkk.out]
          have ev : o.fs.getD j 0 = v := by simp [List.getD_eq_getElem?_getD, hv.out]
          have EK := Lib.hid ek; have EV := Lib.hid ev
          have hjt : j < nt := by have := HL.out; omega
          clear hkk hv ek ev
          have hwn : IntKind.u64.wrap ((NO : Nat) : Int) = (NO : Int) := by show (NO : Int) % 18446744073709551616 = _; omega
          have FT := Lib.hid (fun b hb w => float_any v b hb w)
          have hcase := fd_split NO kk v
          have hno : ∀ z, FdOk NO kk v = z → (z → False) → b = false := fun z hz hf => by
            rw [HOK.out, decide_eq_false_iff_not]
            intro hall
            have := hall j hlt
            rw [EK.out, EV.out, hz] at this
            exact hf this
          have HNO := Lib.hid hno; clear hno
          rcases hcase with ⟨z, e2, zf⟩ | ⟨z, e3, zf⟩ | ⟨z, e2, zf⟩ | ⟨z, e3, zf⟩ | ⟨z, e2, e3⟩
          · have hbf : b = false := HNO.out _ rfl z
            have k2 : ((kk.toNat : Int) == 2) = true := by rw [beq_iff_eq]; omega
            have FT1 := Lib.hid (FT.out false (decide_eq_false zf).symm)
            clear z e2 zf FT
            subst hbf
            go_wp2_with fail
            refine (FT1.out _).mono ?_
            rintro e w2 ⟨rfl, b2⟩
            have B := hh.out.2.2.2.trans (b2.mono hh.out.2.2.2.size)
            go_wp2
            go_ret
            exact ⟨rfl, B⟩
          · have hbf : b = false := HNO.out _ rfl z
            have k2 : ((kk.toNat : Int) == 2) = false := by rw [beq_eq_false_iff_ne]; omega
            have k3 : ((kk.toNat : Int) == 3) = true := by rw [beq_iff_eq]; omega
            clear z e3 FT
            subst hbf
            go_wp2
            go_ret
            exact ⟨rfl, hh.out.2.2.2⟩
          · have k2 : ((kk.toNat : Int) == 2) = true := by rw [beq_iff_eq]; omega
            have k3 : ((kk.toNat : Int) == 3) = false := by rw [beq_eq_false_iff_ne]; omega
            have FT1 := Lib.hid (FT.out true (decide_eq_true zf).symm)
            have HZ := Lib.hid z
            clear z e2 zf FT
            go_wp2_with fail
            refine (FT1.out _).mono ?_
            rintro e w2 ⟨rfl, b2⟩
            have HH := Lib.hid (And.intro (hh.out.2.1.below b2) (And.intro (hh.out.2.2.1.below b2) (hh.out.2.2.2.trans (b2.mono hh.out.2.2.2.size))))
            clear b2 m1 m2 g1 g2 c_g1 c_g2
            go_wp2
            go_roundg (n - (j + 1))
            case measure => omega
            case rel =>
              refine ⟨j + 1, by omega, rfl, by go_num, Lib.hid ⟨fun i hi => ?_, HH.out⟩⟩
              by_cases hij : i < j
              · exact hh.out.1 i hij
              · obtain rfl : i = j := by omega
                rw [EK.out, EV.out]; exact HZ.out
          · have k2 : ((kk.toNat : Int) == 2) = false := by rw [beq_eq_false_iff_ne]; omega
            have k3 : ((kk.toNat : Int) == 3) = true := by rw [beq_iff_eq]; omega
            have HZ := Lib.hid z
            have zf2 : ¬ NO < v.toNat := by omega
            clear z e3 FT zf
            go_wp2
            go_roundg (n - (j + 1))
            case measure => omega
            case rel =>
              refine ⟨j + 1, by omega, rfl, by go_num, Lib.hid ⟨fun i hi => ?_, hh.out.2⟩⟩
              by_cases hij : i < j
              · exact hh.out.1 i hij
              · obtain rfl : i = j := by omega
                rw [EK.out, EV.out]; exact HZ.out
          · have k2 : ((kk.toNat : Int) == 2) = false := by rw [beq_eq_false_iff_ne]; omega
            have k3 : ((kk.toNat : Int) == 3) = false := by rw [beq_eq_false_iff_ne]; omega
            have HZ := Lib.hid z
            clear z e2 e3 FT
            go_wp2
            go_roundg (n - (j + 1))
            case measure => omega
            case rel =>
              refine ⟨j + 1, by omega, rfl, by go_num, Lib.hid ⟨fun i hi => ?_, hh.out.2⟩⟩
              by_cases hij : i < j
              · exact hh.out.1 i hij
              · obtain rfl : i = j := by omega
                rw [EK.out, EV.out]; exact HZ.out
        · obtain rfl : j = n := by omega
          have hbt : b = true := by rw [HOK.out, decide_eq_true_iff]; exact fun i hi => hh.out.1 i hi
          have hntn : ¬ j < nt := by have := HL.out; omega
          subst hbt
          go_wp2
          go_ret
          exact ⟨rfl, hh.out.2.2.2⟩
    · have hc : ((n : Int) != (nt : Int)) = true := by rw [bne_iff_ne]; omega
      have hbf : b = false := by
        rw [hb, decide_eq_false_iff_not, ObOk, ht']
        intro hh; omega
      subst hbf
      clear hb ht' hkt hNT hn hnt hl
      go_enter Try.func108, Try.ntmps108
      go_upto_region 1 with (fail)
      refine wp_gen (fun Wv => Bx Wv (w.heap.size) (85) (#[tv, ov, sv]) ∧ Bx Wv (w.heap.size + 1) (135) (#[.int .i64 (k : Int), x]) ∧ Below w.heap.size w Wv) ⟨(((Bx.at_ (by simp)).alloc _)), ((Bx.at_ (by simp))), (((Below.refl _ w).alloc (by simp <;> omega) _).alloc (by simp <;> omega) _)⟩ ?_
      rintro wa1 ⟨g1, g2, b⟩
      replace m0 := cell_later b m0; replace B := B.trans (b.mono B.size); clear b
      have c_g1 := g1.cell; have f_g1 := g1.free; have a_g1 := fun o => (g1.alloc o).cell; have d_g1 := fun o o2 => ((g1.alloc o).alloc o2).cell; have e_g1 := fun o => (g1.alloc o).free
      have c_g2 := g2.cell; have f_g2 := g2.free; have a_g2 := fun o => (g2.alloc o).cell; have d_g2 := fun o o2 => ((g2.alloc o).alloc o2).cell; have e_g2 := fun o => (g2.alloc o).free
      refine wp_region_calm (by kernel_rfl) (by kernel_rfl) ?_
      try clear c_g1 f_g1 a_g1 d_g1 e_g1
      have c_g1 := fun x : Fut _ => (g1.below x.h).cell
      try clear c_g2 f_g2 a_g2 d_g2 e_g2
      have c_g2 := fun x : Fut _ => (g2.below x.h).cell
      have c_m0 := fun x : Fut _ => cell_later x.h m0
      repeat (go_big_quiet_step (fail))
      refine wpQuiet_nil ?_
      intro _ hw'
      obtain ⟨xq, hw''⟩ := hw'
      subst hw''
      clear c_m0; replace m0 := cell_later xq.h m0
      clear c_g1; replace g1 := g1.below xq.h; have c_g1 := g1.cell; have f_g1 := g1.free; have a_g1 := fun o => (g1.alloc o).cell; have d_g1 := fun o o2 => ((g1.alloc o).alloc o2).cell; have e_g1 := fun o => (g1.alloc o).free
      clear c_g2; replace g2 := g2.below xq.h; have c_g2 := g2.cell; have f_g2 := g2.free; have a_g2 := fun o => (g2.alloc o).cell; have d_g2 := fun o o2 => ((g2.alloc o).alloc o2).cell; have e_g2 := fun o => (g2.alloc o).free
      replace B := B.trans (xq.h.mono B.size)
      go_wp2
      go_ret
      exact ⟨rfl, B⟩
  · have hbf : b = false := by
      rw [hb, decide_eq_false_iff_not, ObOk]
      intro hh; omega
    subst hbf
    obtain ⟨ty, fs⟩ := o
    dsimp only at *
    by_cases hneg : ty < 0
    · have ha : decide (ty < 0) = true := decide_eq_true hneg
      clear hb hNT hn hty hneg
      go_enter Try.func108, Try.ntmps108
      go_upto_region 1 with (fail)
      refine wp_gen (fun Wv => Bx Wv (w.heap.size) (85) (#[tv, ov, sv]) ∧ Bx Wv (w.heap.size + 1) (135) (#[.int .i64 ty, x]) ∧ Below w.heap.size w Wv) ⟨(((Bx.at_ (by simp)).alloc _)), ((Bx.at_ (by simp))), (((Below.refl _ w).alloc (by simp <;> omega) _).alloc (by simp <;> omega) _)⟩ ?_
      rintro wa1 ⟨g1, g2, b⟩
      replace B := B.trans (b.mono B.size); clear b
      have c_g1 := g1.cell; have f_g1 := g1.free; have a_g1 := fun o => (g1.alloc o).cell; have d_g1 := fun o o2 => ((g1.alloc o).alloc o2).cell; have e_g1 := fun o => (g1.alloc o).free
      have c_g2 := g2.cell; have f_g2 := g2.free; have a_g2 := fun o => (g2.alloc o).cell; have d_g2 := fun o o2 => ((g2.alloc o).alloc o2).cell; have e_g2 := fun o => (g2.alloc o).free
      refine wp_region_calm (by kernel_rfl) (by kernel_rfl) ?_
      try clear c_g1 f_g1 a_g1 d_g1 e_g1
      have c_g1 := fun x : Fut _ => (g1.below x.h).cell
      try clear c_g2 f_g2 a_g2 d_g2 e_g2
      have c_g2 := fun x : Fut _ => (g2.below x.h).cell
      repeat (go_big_quiet_step (fail))
      refine wpQuiet_nil ?_
      intro _ hw'
      obtain ⟨xq, hw''⟩ := hw'
      subst hw''
      clear c_g1; replace g1 := g1.below xq.h; have c_g1 := g1.cell; have f_g1 := g1.free; have a_g1 := fun o => (g1.alloc o).cell; have d_g1 := fun o o2 => ((g1.alloc o).alloc o2).cell; have e_g1 := fun o => (g1.alloc o).free
      clear c_g2; replace g2 := g2.below xq.h; have c_g2 := g2.cell; have f_g2 := g2.free; have a_g2 := fun o => (g2.alloc o).cell; have d_g2 := fun o o2 => ((g2.alloc o).alloc o2).cell; have e_g2 := fun o => (g2.alloc o).free
      replace B := B.trans (xq.h.mono B.size)
      go_wp2
      go_ret
      exact ⟨rfl, B⟩
    · have ha : decide (ty < 0) = false := decide_eq_false hneg
      have hb1 : decide ((NT : Int) ≤ ty) = true := by rw [decide_eq_true_iff]; omega
      clear hb hNT hn hty hneg
      go_enter Try.func108, Try.ntmps108
      go_upto_region 1 with (fail)
      refine wp_gen (fun Wv => Bx Wv (w.heap.size) (85) (#[tv, ov, sv]) ∧ Bx Wv (w.heap.size + 1) (135) (#[.int .i64 ty, x]) ∧ Below w.heap.size w Wv) ⟨(((Bx.at_ (by simp)).alloc _)), ((Bx.at_ (by simp))), (((Below.refl _ w).alloc (by simp <;> omega) _).alloc (by simp <;> omega) _)⟩ ?_
      rintro wa1 ⟨g1, g2, b⟩
      replace B := B.trans (b.mono B.size); clear b
      have c_g1 := g1.cell; have f_g1 := g1.free; have a_g1 := fun o => (g1.alloc o).cell; have d_g1 := fun o o2 => ((g1.alloc o).alloc o2).cell; have e_g1 := fun o => (g1.alloc o).free
      have c_g2 := g2.cell; have f_g2 := g2.free; have a_g2 := fun o => (g2.alloc o).cell; have d_g2 := fun o o2 => ((g2.alloc o).alloc o2).cell; have e_g2 := fun o => (g2.alloc o).free
      refine wp_region_calm (by kernel_rfl) (by kernel_rfl) ?_
      try clear c_g1 f_g1 a_g1 d_g1 e_g1
      have c_g1 := fun x : Fut _ => (g1.below x.h).cell
      try clear c_g2 f_g2 a_g2 d_g2 e_g2
      have c_g2 := fun x : Fut _ => (g2.below x.h).cell
      repeat (go_big_quiet_step (fail))
      refine wpQuiet_nil ?_
      intro _ hw'
      obtain ⟨xq, hw''⟩ := hw'
      subst hw''
      clear c_g1; replace g1 := g1.below xq.h; have c_g1 := g1.cell; have f_g1 := g1.free; have a_g1 := fun o => (g1.alloc o).cell; have d_g1 := fun o o2 => ((g1.alloc o).alloc o2).cell; have e_g1 := fun o => (g1.alloc o).free
      clear c_g2; replace g2 := g2.below xq.h; have c_g2 := g2.cell; have f_g2 := g2.free; have a_g2 := fun o => (g2.alloc o).cell; have d_g2 := fun o o2 => ((g2.alloc o).alloc o2).cell; have e_g2 := fun o => (g2.alloc o).free
      replace B := B.trans (xq.h.mono B.size)
      go_wp2
      go_ret
      exact ⟨rfl, B⟩
end Go.Proofs.Ytmbokdnndlnjkaa
namespace Go.Proofs.Ytmbokdnndlnjkaa
open Go.RowKit L02 L13 L18 L20
set_option maxRecDepth 100000 in
set_option maxHeartbeats 8000000 in
theorem Check20_any (tv ov sv : Value) (m : Mo) (r : Int) (hr : r = chk m) (w : World) (h : Mod w tv ov sv m) :
    Calls Try.prog 79 #[.agg #[tv, ov, sv]] w fun e w' => e = .returned (.int .i64 r) ∧ Below w.heap.size w w' := by
  have B : Below w.heap.size w w := Below.refl _ _
  have lt := h.t.len; have lo := h.o.len; have ls := h.s.len
  have lt' := h.t.len_le; have lo' := h.o.len_le; have ls' := h.s.len_le
  have hbig : 8 < m.types.length ∨ 960 < m.objs.length → r = 4 := fun hm => by rw [hr, chk_many hm]
  have hbad : ¬ (8 < m.types.length ∨ 960 < m.objs.length) → ¬ MoOk m → r = 8 := fun h1 h2 => by rw [hr, chk_bad h1 h2]
  have hgood : ¬ (8 < m.types.length ∨ 960 < m.objs.length) → MoOk m → r = 0 := fun h1 h2 => by rw [hr, chk_zero h1 h2]
  obtain ⟨NT, hNT⟩ : ∃ N, N = m.types.length := ⟨_, rfl⟩
  obtain ⟨NO, hNO⟩ : ∃ N, N = m.objs.length := ⟨_, rfl⟩
  obtain ⟨NS, hNS⟩ : ∃ N, N = m.slots.length := ⟨_, rfl⟩
  rw [← hNT] at lt lt' hbig hbad hgood; rw [← hNO] at lo lo' hbig hbad hgood; rw [← hNS] at ls ls'
  have H := Lib.hid h; have HNT := Lib.hid hNT; have HNO := Lib.hid hNO; have HNS := Lib.hid hNS
  clear h hr hNT hNO hNS
  by_cases h1 : 8 < NT
  · have hr4 := hbig (.inl h1)
    clear hbig hbad hgood
    subst hr4
    go_enter Try.func79, Try.ntmps79
    go_wp2
    go_ret
    exact ⟨rfl, B.alloc B.size _⟩
  by_cases h2 : 960 < NO
  · have hr4 := hbig (.inr h2)
    clear hbig hbad hgood
    subst hr4
    go_enter Try.func79, Try.ntmps79
    go_wp2
    go_ret
    exact ⟨rfl, B.alloc B.size _⟩
  have hnm : ¬ (8 < NT ∨ 960 < NO) := by omega
  have HBAD := Lib.hid (hbad hnm); have HGOOD := Lib.hid (hgood hnm)
  clear hbig hbad hgood hnm
  by_cases h3 : NS = 16
  · have h3' : ((NS : Int) != 16) = false := by rw [bne_eq_false_iff_eq]; omega
    have HS3 := Lib.hid h3; clear h3
    go_enter Try.func79, Try.ntmps79
    go_upto_region 1 with (fail)
    refine wp_gen (fun Wv => Bx Wv (w.heap.size) (85) (#[tv, ov, sv]) ∧ Below w.heap.size w Wv) ⟨((Bx.at_ (by simp))), ((Below.refl _ w).alloc (by simp <;> omega) _)⟩ ?_
    rintro wa1 ⟨g1, b⟩
    replace B := B.trans (b.mono B.size); clear b
    have c_g1 := g1.cell; have f_g1 := g1.free; have a_g1 := fun o => (g1.alloc o).cell; have d_g1 := fun o o2 => ((g1.alloc o).alloc o2).cell; have e_g1 := fun o => (g1.alloc o).free
    have HB := Lib.hid B; clear B
    go_wp2
    have HG1 := Lib.hid g1
    clear g1 c_g1 f_g1 a_g1 d_g1 e_g1
    go_loopg [26] NT (fun g i wr => ∃ j : Nat, j ≤ NT ∧ g = NT - j ∧ i = .int .i64 j ∧ Hid ((∀ (i : Nat) t, i < j → m.types[i]? = some t → kErr t = 0) ∧ Bx wr w.heap.size 85 #[tv, ov, sv] ∧ Below w.heap.size w wr))
    case atStart => exact ⟨0, by omega, by omega, rfl, Lib.hid ⟨fun i t hi => by omega, HG1.out, HB.out⟩⟩
    case round =>
      clear HG1 HB
      obtain ⟨j, hj, rfl, rfl, hh⟩ := hrel
      by_cases hlt : j < NT
      · obtain ⟨ad, y, t, iy, m0, ht, hby⟩ := (H.out.t.below hh.out.2.2).at_ (k := j) (by have := HNT.out; omega)
        by_cases hk : kErr t = 0
        · have KT := Lib.hid (fun w h => KCheck_any y t 0 hk.symm w h)
          have HK := Lib.hid hk; clear hk
          go_wp2_with fail
          refine (KT.out _ hby.out).mono ?_
          rintro e w2 ⟨rfl, rfl⟩
          go_wp2
          go_roundg (NT - (j + 1))
          case measure => omega
          case rel =>
            refine ⟨j + 1, by omega, rfl, by go_num, Lib.hid ⟨fun i u hi hu => ?_, hh.out.2⟩⟩
            by_cases hij : i < j
            · exact hh.out.1 i u hij hu
            · obtain rfl : i = j := by omega
              have := ht.out; rw [hu] at this; injection this with this; subst this; exact HK.out
        · have hr8 := HBAD.out (no_type ht.out hk)
          subst hr8
          obtain ⟨z, hz⟩ : ∃ z, z = kErr t := ⟨_, rfl⟩
          have KT := Lib.hid (fun w h => KCheck_any y t z hz w h)
          have hne : (z != 0) = true := by rw [bne_iff_ne, hz]; exact hk
          clear hk hz
          go_wp2_with fail
          refine (KT.out _ hby.out).mono ?_
          rintro e w2 ⟨rfl, rfl⟩
          go_wp2
          go_ret
          exact ⟨rfl, hh.out.2.2⟩
      · obtain rfl : j = NT := by omega
        have HT := Lib.hid (fun i t hi => hh.out.1 i t hi); have g1 := hh.out.2.1; have HB := Lib.hid hh.out.2.2
        clear hh
        have c_g1 := g1.cell
        go_wp2
        have HG1 := Lib.hid g1
        clear g1 c_g1
        go_loopg [37] NO (fun g i wr => ∃ k : Nat, k ≤ NO ∧ g = NO - k ∧ i = .int .i64 k ∧ Hid ((∀ (i : Nat) o, i < k → m.objs[i]? = some o → ObOk m.types m.objs.length o) ∧ Bx wr w.heap.size 85 #[tv, ov, sv] ∧ Below w.heap.size w wr))
        case atStart => exact ⟨0, by omega, by omega, rfl, Lib.hid ⟨fun i t hi => by omega, HG1.out, HB.out⟩⟩
        case round =>
          clear HG1 HB
          obtain ⟨k, hk, rfl, rfl, hh⟩ := hrel
          by_cases hltk : k < NO
          · obtain ⟨ob, oq, x, o, ix, m0, m1, ho, hx, hob⟩ := (H.out.o.below hh.out.2.2).at_ (k := k) (by have := HNO.out; omega)
            obtain ⟨z, hz⟩ : ∃ z, z = decide (ObOk m.types m.objs.length o) := ⟨_, rfl⟩
            have OT := Lib.hid (fun w h hx => object_any tv ov sv x m o z hz w h hx)
            have HZ := Lib.hid hz; clear hz
            have g1 := hh.out.2.1; have B := hh.out.2.2; have HA := Lib.hid hh.out.1
            have hxx := hx.out
            obtain ⟨xA, xn, xc, rfl⟩ : ∃ A n c, x = .slice A n c := by obtain ⟨A, c, e, _⟩ := hx.out; exact ⟨A, _, c, e⟩
            clear hx
            have H1 := Lib.hid (H.out.below B)
            have c_g1 := g1.cell
            go_upto_region 14 with (fail)
            refine wp_gen (fun Wv => Bx Wv (wr.heap.size) (135) (#[.int .i64 o.ty, .slice xA xn xc]) ∧ Below wr.heap.size wr Wv) ⟨((Bx.at_ (by simp))), ((Below.refl _ wr).alloc (by simp <;> omega) _)⟩ ?_
            rintro wa1 ⟨g2, b⟩
            try clear c_g1 f_g1 a_g1 d_g1 e_g1
            replace g1 := g1.below b; have c_g1 := g1.cell; have f_g1 := g1.free; have a_g1 := fun o => (g1.alloc o).cell; have d_g1 := fun o o2 => ((g1.alloc o).alloc o2).cell; have e_g1 := fun o => (g1.alloc o).free; replace hxx := hxx.below b; replace B := B.trans (b.mono B.size); clear b
            have c_g2 := g2.cell; have f_g2 := g2.free; have a_g2 := fun o => (g2.alloc o).cell; have d_g2 := fun o o2 => ((g2.alloc o).alloc o2).cell; have e_g2 := fun o => (g2.alloc o).free
            go_wp2_with fail
            refine (OT.out _ (H.out.below B) hxx).mono ?_
            rintro e w2 ⟨rfl, b2⟩
            replace B := B.trans (b2.mono B.size)
            cases z
            · have hbad := HBAD.out (no_obj ho.out (by have := HZ.out; rw [eq_comm, decide_eq_false_iff_not] at this; exact this))
              subst hbad
              clear b2
              go_wp2
              go_ret
              exact ⟨rfl, B⟩
            · have HH := Lib.hid (And.intro (g1.below b2) B)
              clear b2 g1 g2 c_g1 c_g2 f_g1 f_g2 a_g1 a_g2 d_g1 d_g2 e_g1 e_g2 B m0 m1
              go_wp2
              go_roundg (NO - (k + 1))
              case measure => omega
              case rel =>
                refine ⟨k + 1, by omega, rfl, by go_num, Lib.hid ⟨fun i u hi hu => ?_, HH.out⟩⟩
                by_cases hik : i < k
                · exact HA.out i u hik hu
                · obtain rfl : i = k := by omega
                  have := ho.out; rw [hu] at this; injection this with this; subst this
                  have := HZ.out; rw [eq_comm, decide_eq_true_iff] at this; exact this
          · obtain rfl : k = NO := by omega
            have HO := Lib.hid (fun i t hi => hh.out.1 i t hi); have g1 := hh.out.2.1; have HB := Lib.hid hh.out.2.2
            clear hh
            have c_g1 := g1.cell
            go_wp2
            have HG1 := Lib.hid g1
            clear g1 c_g1
            go_loopg [49] 16 (fun g i wr => ∃ q : Nat, q ≤ 16 ∧ g = 16 - q ∧ i = .int .i64 q ∧ Hid ((∀ (i : Nat) o, i < q → m.slots[i]? = some o → SlOk m.objs.length o) ∧ Bx wr w.heap.size 85 #[tv, ov, sv] ∧ Below w.heap.size w wr))
            case atStart => exact ⟨0, by omega, by omega, rfl, Lib.hid ⟨fun i t hi => by omega, HG1.out, HB.out⟩⟩
            case round =>
              clear HG1 HB
              obtain ⟨q, hq, rfl, rfl, hh⟩ := hrel
              by_cases hltq : q < 16
              · have hqn : q < NS := by have := HS3.out; omega
                obtain ⟨sb, sq, s, ix, m0, m1, m2, hs⟩ := (H.out.s.below hh.out.2.2).at_ (P := Try.prog) Try.underlying60 size_slot (k := q) (by have := HNS.out; omega)
                obtain ⟨z, hz⟩ : ∃ z, z = decide (SlOk m.objs.length s) := ⟨_, rfl⟩
                have ST := Lib.hid (fun w h => slot_any tv ov sv m s z hz w h)
                have HZ := Lib.hid hz; clear hz
                have g1 := hh.out.2.1; have B := hh.out.2.2; have HA := Lib.hid hh.out.1
                have c_g1 := g1.cell
                go_upto_region 20 with (fail)
                refine wp_gen (fun Wv => Bx Wv (wr.heap.size) (46) (#[.int .i64 s.gen, .bool s.used, .int .i64 s.at_]) ∧ Below wr.heap.size wr Wv) ⟨((Bx.at_ (by simp))), ((Below.refl _ wr).alloc (by simp <;> omega) _)⟩ ?_
                rintro wa1 ⟨g2, b⟩
                try clear c_g1 f_g1 a_g1 d_g1 e_g1
                replace g1 := g1.below b; have c_g1 := g1.cell; have f_g1 := g1.free; have a_g1 := fun o => (g1.alloc o).cell; have d_g1 := fun o o2 => ((g1.alloc o).alloc o2).cell; have e_g1 := fun o => (g1.alloc o).free; replace B := B.trans (b.mono B.size); clear b
                have c_g2 := g2.cell; have f_g2 := g2.free; have a_g2 := fun o => (g2.alloc o).cell; have d_g2 := fun o o2 => ((g2.alloc o).alloc o2).cell; have e_g2 := fun o => (g2.alloc o).free
                go_wp2_with fail
                refine (ST.out _ (H.out.below B)).mono ?_
                rintro e w2 ⟨rfl, b2⟩
                replace B := B.trans (b2.mono B.size)
                cases z
                · have hbad := HBAD.out (no_slot hs.out (by have := HZ.out; rw [eq_comm, decide_eq_false_iff_not] at this; exact this))
                  subst hbad
                  clear b2
                  go_wp2
                  go_ret
                  exact ⟨rfl, B⟩
                · have HH := Lib.hid (And.intro (g1.below b2) B)
                  clear b2 g1 g2 c_g1 c_g2 f_g1 f_g2 a_g1 a_g2 d_g1 d_g2 e_g1 e_g2 B m0 m1 m2
                  go_wp2
                  go_roundg (16 - (q + 1))
                  case measure => omega
                  case rel =>
                    refine ⟨q + 1, by omega, rfl, by go_num, Lib.hid ⟨fun i u hi hu => ?_, HH.out⟩⟩
                    by_cases hik : i < q
                    · exact HA.out i u hik hu
                    · obtain rfl : i = q := by omega
                      have := hs.out; rw [hu] at this; injection this with this; subst this
                      have := HZ.out; rw [eq_comm, decide_eq_true_iff] at this; exact this
              · obtain rfl : q = 16 := by omega
                have hmo : MoOk m := by
                  refine ⟨by rw [← HNS.out]; exact HS3.out, fun t ht => ?_, fun o ho => ?_, fun s hs => ?_⟩
                  · obtain ⟨i, hi, hit⟩ := List.getElem_of_mem ht
                    exact HT.out i t (by rw [HNT.out]; exact hi) (by rw [List.getElem?_eq_getElem hi, hit])
                  · obtain ⟨i, hi, hit⟩ := List.getElem_of_mem ho
                    exact HO.out i o (by rw [HNO.out]; exact hi) (by rw [List.getElem?_eq_getElem hi, hit])
                  · obtain ⟨i, hi, hit⟩ := List.getElem_of_mem hs
                    exact hh.out.1 i s (by have := HNS.out; have := HS3.out; omega) (by rw [List.getElem?_eq_getElem hi, hit])
                have hr0 := HGOOD.out hmo
                subst hr0
                have hns : ¬ (16 : Int) < NS := by have := HS3.out; omega
                have hns' : decide ((16 : Int) < NS) = false := decide_eq_false hns
                obtain rfl := HS3.out
                go_wp2
                go_ret
                exact ⟨rfl, hh.out.2.2⟩
  · have hr8 := HBAD.out (fun hm => h3 (by rw [HNS.out]; exact hm.1))
    subst hr8
    have h3' : ((NS : Int) != 16) = true := by rw [bne_iff_ne]; omega
    clear h3
    go_enter Try.func79, Try.ntmps79
    go_wp2
    go_ret
    exact ⟨rfl, B.alloc B.size _⟩
end Go.Proofs.Ytmbokdnndlnjkaa
