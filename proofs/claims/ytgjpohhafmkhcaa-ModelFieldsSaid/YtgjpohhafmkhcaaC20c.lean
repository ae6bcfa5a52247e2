/- Contracts of models: objects. -/
import Derived.Test.YtgjpohhafmkhcaaC20b
import Derived.Deep.DeepCutAuto
import Derived.Deep.LoopGhost
set_option linter.unusedVariables false
set_option linter.unusedSimpArgs false
namespace Go.Proofs.Ytgjpohhafmkhcaa
open Go.RowKit L02 L13 L18 L20

/-- what is asked of a field, as the code asks it -/
theorem fd_split (n : Nat) (k : UInt8) (v : UInt64) : (¬ FdOk n k v ∧ k.toNat = 2 ∧ ¬ FloatOk v) ∨ (¬ FdOk n k v ∧ k.toNat = 3 ∧ n < v.toNat) ∨ (FdOk n k v ∧ k.toNat = 2 ∧ FloatOk v) ∨ (FdOk n k v ∧ k.toNat = 3 ∧ v.toNat ≤ n) ∨ (FdOk n k v ∧ k.toNat ≠ 2 ∧ k.toNat ≠ 3) := by
  unfold FdOk
  by_cases h2 : k.toNat = 2
  · by_cases hf : FloatOk v
    · exact .inr (.inr (.inl ⟨⟨fun _ => hf, fun h => by omega⟩, h2, hf⟩))
    · exact .inl ⟨fun h => hf (h.1 h2), h2, hf⟩
  · by_cases h3 : k.toNat = 3
    · by_cases hv : v.toNat ≤ n
      · exact .inr (.inr (.inr (.inl ⟨⟨fun h => by omega, fun _ => hv⟩, h3, hv⟩)))
      · exact .inr (.inl ⟨fun h => hv (h.2 h3), h3, by omega⟩)
    · exact .inr (.inr (.inr (.inr ⟨⟨fun h => by omega, fun h => by omega⟩, h2, h3⟩)))

set_option maxRecDepth 100000 in
set_option maxHeartbeats 4000000 in
theorem object_any (tv ov sv x : Value) (m : Mo) (o : Ob) (b : Bool) (hb : b = decide (ObOk m.types m.objs.length o)) (w : World) (h : Mod w tv ov sv m) (hx : Words w x o.fs) :
    Calls Try.prog 60 #[.agg #[tv, ov, sv], .agg #[.int .i64 o.ty, x]] w fun e w' => e = .returned (.bool b) ∧ Below w.heap.size w w' := by
  have B : Below w.heap.size w w := Below.refl _ _
  have lt := h.t.len; have lo := h.o.len; have lx := Rd.len hx Try.underlying70
  have lo' := h.o.len_le; have lx' := Rd.len_le hx
  obtain ⟨NT, hNT⟩ : ∃ N, N = m.types.length := ⟨_, rfl⟩
  obtain ⟨NO, hNO⟩ : ∃ N, N = m.objs.length := ⟨_, rfl⟩
  obtain ⟨n, hn⟩ : ∃ N, N = o.fs.length := ⟨_, rfl⟩
  rw [← hNT] at lt; rw [← hNO] at lo lo' hb; rw [← hn] at lx lx'
  have H := Lib.hid h; have HX := Lib.hid hx; have HNT := Lib.hid hNT; have HN := Lib.hid hn
  clear h hx hNO
  by_cases hty : 0 ≤ o.ty ∧ o.ty < NT
  · obtain ⟨k, hk⟩ := Int.eq_ofNat_of_zero_le hty.1
    rw [hk] at hty ⊢
    have hkt : k < m.types.length := by omega
    obtain ⟨ad, y, t, iy, m0, ht, hby⟩ := H.out.t.at_ hkt
    have ht' : ty m.types o = t := by rw [ty, hk]; simp [List.getD_eq_getElem?_getD, ht.out]
    have ly := Rd.len hby.out Try.underlying74
    obtain ⟨nt, hnt⟩ : ∃ N, N = t.length := ⟨_, rfl⟩
    rw [← hnt] at ly
    have HNt := Lib.hid hnt
    have ha : decide ((k : Int) < 0) = false := by rw [decide_eq_false_iff_not]; omega
    have hb1 : decide ((NT : Int) ≤ (k : Int)) = false := by rw [decide_eq_false_iff_not]; omega
    have hb2 : decide (NT ≤ k) = false := by rw [decide_eq_false_iff_not]; omega
    by_cases hl : n = nt
    · have hc : ((n : Int) != (nt : Int)) = false := by rw [bne_eq_false_iff_eq]; omega
      have hok : b = decide (∀ i, i < n → FdOk NO (t.getD i 0) (o.fs.getD i 0)) := by
        rw [hb]
        congr 1
        rw [eq_iff_iff, ObOk, ht']
        refine ⟨fun hh i hi => hh.2.2 i (by omega), fun hh => ⟨by omega, by omega, fun i hi => hh i (by omega)⟩⟩
      have HOK := Lib.hid hok; have HL := Lib.hid hl
      clear hb hok ht' hkt hNT hn hnt hl
      go_enter Try.func60, Try.ntmps60
      go_upto_region 1 with (fail)
      refine wp_gen (fun Wv => Bx Wv (w.heap.size) (26) (#[tv, ov, sv]) ∧ Bx Wv (w.heap.size + 1) (72) (#[.int .i64 (k : Int), x]) ∧ Below w.heap.size w Wv) ⟨(((Bx.at_ (by simp)).alloc _)), ((Bx.at_ (by simp))), (((Below.refl _ w).alloc (by simp <;> omega) _).alloc (by simp <;> omega) _)⟩ ?_
      rintro wa1 ⟨g1, g2, b⟩
      replace m0 := cell_later b m0; replace B := B.trans (b.mono B.size); clear b
      have c_g1 := g1.cell; have f_g1 := g1.free; have a_g1 := fun o => (g1.alloc o).cell; have d_g1 := fun o o2 => ((g1.alloc o).alloc o2).cell; have e_g1 := fun o => (g1.alloc o).free
      have c_g2 := g2.cell; have f_g2 := g2.free; have a_g2 := fun o => (g2.alloc o).cell; have d_g2 := fun o o2 => ((g2.alloc o).alloc o2).cell; have e_g2 := fun o => (g2.alloc o).free
      refine wp_region_calm (by kernel_rfl) (by kernel_rfl) ?_
      try clear c_g1 f_g1 a_g1 d_g1 e_g1
      have c_g1 := fun x : Fut _ => (g1.below x.h).cell
      try clear c_g2 f_g2 a_g2 d_g2 e_g2
      have c_g2 := fun x : Fut _ => (g2.below x.h).cell
      have c_m0 := fun x : Fut _ => cell_later x.h m0
      repeat (go_big_quiet_step (fail))
      refine wpQuiet_nil ?_
      intro _ hw'
      obtain ⟨xq, hw''⟩ := hw'
      subst hw''
      clear c_m0; replace m0 := cell_later xq.h m0
      clear c_g1; replace g1 := g1.below xq.h; have c_g1 := g1.cell; have f_g1 := g1.free; have a_g1 := fun o => (g1.alloc o).cell; have d_g1 := fun o o2 => ((g1.alloc o).alloc o2).cell; have e_g1 := fun o => (g1.alloc o).free
      clear c_g2; replace g2 := g2.below xq.h; have c_g2 := g2.cell; have f_g2 := g2.free; have a_g2 := fun o => (g2.alloc o).cell; have d_g2 := fun o o2 => ((g2.alloc o).alloc o2).cell; have e_g2 := fun o => (g2.alloc o).free
      replace B := B.trans (xq.h.mono B.size)
      go_wp2
      have HB := Lib.hid B; have HG1 := Lib.hid g1; have HG2 := Lib.hid g2
      clear B g1 g2 m0 c_g1 c_g2 f_g1 f_g2 a_g1 a_g2 d_g1 d_g2 e_g1 e_g2
      go_loopg [39] n (fun g i wr => ∃ j : Nat, j ≤ n ∧ g = n - j ∧ i = .int .i64 j ∧ Hid ((∀ i, i < j → FdOk NO (t.getD i 0) (o.fs.getD i 0)) ∧ Bx wr w.heap.size 26 #[tv, ov, sv] ∧ Bx wr (w.heap.size + 1) 72 #[.int .i64 (k : Int), x] ∧ Below w.heap.size w wr))
      case atStart => exact ⟨0, by omega, by omega, rfl, Lib.hid ⟨fun i hi => by omega, HG1.out, HG2.out, HB.out⟩⟩
      case round =>
        obtain ⟨j, hj, rfl, rfl, hh⟩ := hrel
        by_cases hlt : j < n
        · have g1 := hh.out.2.1; have g2 := hh.out.2.2.1
          have c_g1 := g1.cell; have c_g2 := g2.cell
          obtain ⟨bd, kk, ib, m1, hkk⟩ := (hby.out.below hh.out.2.2.2).at_ (P := Try.prog) Try.underlying74 one_u8 (k := j) (by have := HNt.out; have := HL.out; omega)
          obtain ⟨cd, v, ic, m2, hv⟩ := (HX.out.below hh.out.2.2.2).at_ (P := Try.prog) Try.underlying70 one_u64 (k := j) (by have := HN.out; omega)
          have ek : t.getD j 0 = kk := by simp [List.getD_eq_getElem?_getD, hkk.out]
          have ev : o.fs.getD j 0 = v := by simp [List.getD_eq_getElem?_getD, hv.out]
          have EK := Lib.hid ek; have EV := Lib.hid ev
          have hjt : j < nt := by have := HL.out; omega
          clear hkk hv ek ev
          have hwn : IntKind.u64.wrap ((NO : Nat) : Int) = (NO : Int) := by show (NO : Int) % 18446744073709551616 = _; omega
          have FT := Lib.hid (fun b hb w => float_any v b hb w)
          have hcase := fd_split NO kk v
          have hno : ∀ z, FdOk NO kk v = z → (z → False) → b = false := fun z hz hf => by
            rw [HOK.out, decide_eq_false_iff_not]
            intro hall
            have := hall j hlt
            rw [EK.out, EV.out, hz] at this
            exact hf this
          have HNO := Lib.hid hno; clear hno
          rcases hcase with ⟨z, e2, zf⟩ | ⟨z, e3, zf⟩ | ⟨z, e2, zf⟩ | ⟨z, e3, zf⟩ | ⟨z, e2, e3⟩
          · have hbf : b = false := HNO.out _ rfl z
            have k2 : ((kk.toNat : Int) == 2) = true := by rw [beq_iff_eq]; omega
            have FT1 := Lib.hid (FT.out false (decide_eq_false zf).symm)
            clear z e2 zf FT
            subst hbf
            go_wp2_with fail
            refine (FT1.out _).mono ?_
            rintro e w2 ⟨rfl, b2⟩
            have B := hh.out.2.2.2.trans (b2.mono hh.out.2.2.2.size)
            go_wp2
            go_ret
            exact ⟨rfl, B⟩
          · have hbf : b = false := HNO.out _ rfl z
            have k2 : ((kk.toNat : Int) == 2) = false := by rw [beq_eq_false_iff_ne]; omega
            have k3 : ((kk.toNat : Int) == 3) = true := by rw [beq_iff_eq]; omega
            clear z e3 FT
            subst hbf
            go_wp2
            go_ret
            exact ⟨rfl, hh.out.2.2.2⟩
          · have k2 : ((kk.toNat : Int) == 2) = true := by rw [beq_iff_eq]; omega
            have k3 : ((kk.toNat : Int) == 3) = false := by rw [beq_eq_false_iff_ne]; omega
            have FT1 := Lib.hid (FT.out true (decide_eq_true zf).symm)
            have HZ := Lib.hid z
            clear z e2 zf FT
            go_wp2_with fail
            refine (FT1.out _).mono ?_
            rintro e w2 ⟨rfl, b2⟩
            have HH := Lib.hid (And.intro (hh.out.2.1.below b2) (And.intro (hh.out.2.2.1.below b2) (hh.out.2.2.2.trans (b2.mono hh.out.2.2.2.size))))
            clear b2 m1 m2 g1 g2 c_g1 c_g2
            go_wp2
            go_roundg (n - (j + 1))
            case measure => omega
            case rel =>
              refine ⟨j + 1, by omega, rfl, by go_num, Lib.hid ⟨fun i hi => ?_, HH.out⟩⟩
              by_cases hij : i < j
              · exact hh.out.1 i hij
              · obtain rfl : i = j := by omega
                rw [EK.out, EV.out]; exact HZ.out
          · have k2 : ((kk.toNat : Int) == 2) = false := by rw [beq_eq_false_iff_ne]; omega
            have k3 : ((kk.toNat : Int) == 3) = true := by rw [beq_iff_eq]; omega
            have HZ := Lib.hid z
            have zf2 : ¬ NO < v.toNat := by omega
            clear z e3 FT zf
            go_wp2
            go_roundg (n - (j + 1))
            case measure => omega
            case rel =>
              refine ⟨j + 1, by omega, rfl, by go_num, Lib.hid ⟨fun i hi => ?_, hh.out.2⟩⟩
              by_cases hij : i < j
              · exact hh.out.1 i hij
              · obtain rfl : i = j := by omega
                rw [EK.out, EV.out]; exact HZ.out
          · have k2 : ((kk.toNat : Int) == 2) = false := by rw [beq_eq_false_iff_ne]; omega
            have k3 : ((kk.toNat : Int) == 3) = false := by rw [beq_eq_false_iff_ne]; omega
            have HZ := Lib.hid z
            clear z e2 e3 FT
            go_wp2
            go_roundg (n - (j + 1))
            case measure => omega
            case rel =>
              refine ⟨j + 1, by omega, rfl, by go_num, Lib.hid ⟨fun i hi => ?_, hh.out.2⟩⟩
              by_cases hij : i < j
              · exact hh.out.1 i hij
              · obtain rfl : i = j := by omega
                rw [EK.out, EV.out]; exact HZ.out
        · obtain rfl : j = n := by omega
          have hbt : b = true := by rw [HOK.out, decide_eq_true_iff]; exact fun i hi => hh.out.1 i hi
          have hntn : ¬ j < nt := by have := HL.out; omega
          subst hbt
          go_wp2
          go_ret
          exact ⟨rfl, hh.out.2.2.2⟩
    · have hc : ((n : Int) != (nt : Int)) = true := by rw [bne_iff_ne]; omega
      have hbf : b = false := by
        rw [hb, decide_eq_false_iff_not, ObOk, ht']
        intro hh; omega
      subst hbf
      clear hb ht' hkt hNT hn hnt hl
      go_enter Try.func60, Try.ntmps60
      go_upto_region 1 with (fail)
      refine wp_gen (fun Wv => Bx Wv (w.heap.size) (26) (#[tv, ov, sv]) ∧ Bx Wv (w.heap.size + 1) (72) (#[.int .i64 (k : Int), x]) ∧ Below w.heap.size w Wv) ⟨(((Bx.at_ (by simp)).alloc _)), ((Bx.at_ (by simp))), (((Below.refl _ w).alloc (by simp <;> omega) _).alloc (by simp <;> omega) _)⟩ ?_
      rintro wa1 ⟨g1, g2, b⟩
      replace m0 := cell_later b m0; replace B := B.trans (b.mono B.size); clear b
      have c_g1 := g1.cell; have f_g1 := g1.free; have a_g1 := fun o => (g1.alloc o).cell; have d_g1 := fun o o2 => ((g1.alloc o).alloc o2).cell; have e_g1 := fun o => (g1.alloc o).free
      have c_g2 := g2.cell; have f_g2 := g2.free; have a_g2 := fun o => (g2.alloc o).cell; have d_g2 := fun o o2 => ((g2.alloc o).alloc o2).cell; have e_g2 := fun o => (g2.alloc o).free
      refine wp_region_calm (by kernel_rfl) (by kernel_rfl) ?_
      try clear c_g1 f_g1 a_g1 d_g1 e_g1
      have c_g1 := fun x : Fut _ => (g1.below x.h).cell
      try clear c_g2 f_g2 a_g2 d_g2 e_g2
      have c_g2 := fun x : Fut _ => (g2.below x.h).cell
      have c_m0 := fun x : Fut _ => cell_later x.h m0
      repeat (go_big_quiet_step (fail))
      refine wpQuiet_nil ?_
      intro _ hw'
      obtain ⟨xq, hw''⟩ := hw'
      subst hw''
      clear c_m0; replace m0 := cell_later xq.h m0
      clear c_g1; replace g1 := g1.below xq.h; have c_g1 := g1.cell; have f_g1 := g1.free; have a_g1 := fun o => (g1.alloc o).cell; have d_g1 := fun o o2 => ((g1.alloc o).alloc o2).cell; have e_g1 := fun o => (g1.alloc o).free
      clear c_g2; replace g2 := g2.below xq.h; have c_g2 := g2.cell; have f_g2 := g2.free; have a_g2 := fun o => (g2.alloc o).cell; have d_g2 := fun o o2 => ((g2.alloc o).alloc o2).cell; have e_g2 := fun o => (g2.alloc o).free
      replace B := B.trans (xq.h.mono B.size)
      go_wp2
      go_ret
      exact ⟨rfl, B⟩
  · have hbf : b = false := by
      rw [hb, decide_eq_false_iff_not, ObOk]
      intro hh; omega
    subst hbf
    obtain ⟨ty, fs⟩ := o
    dsimp only at *
    by_cases hneg : ty < 0
    · have ha : decide (ty < 0) = true := decide_eq_true hneg
      clear hb hNT hn hty hneg
      go_enter Try.func60, Try.ntmps60
      go_upto_region 1 with (fail)
      refine wp_gen (fun Wv => Bx Wv (w.heap.size) (26) (#[tv, ov, sv]) ∧ Bx Wv (w.heap.size + 1) (72) (#[.int .i64 ty, x]) ∧ Below w.heap.size w Wv) ⟨(((Bx.at_ (by simp)).alloc _)), ((Bx.at_ (by simp))), (((Below.refl _ w).alloc (by simp <;> omega) _).alloc (by simp <;> omega) _)⟩ ?_
      rintro wa1 ⟨g1, g2, b⟩
      replace B := B.trans (b.mono B.size); clear b
      have c_g1 := g1.cell; have f_g1 := g1.free; have a_g1 := fun o => (g1.alloc o).cell; have d_g1 := fun o o2 => ((g1.alloc o).alloc o2).cell; have e_g1 := fun o => (g1.alloc o).free
      have c_g2 := g2.cell; have f_g2 := g2.free; have a_g2 := fun o => (g2.alloc o).cell; have d_g2 := fun o o2 => ((g2.alloc o).alloc o2).cell; have e_g2 := fun o => (g2.alloc o).free
      refine wp_region_calm (by kernel_rfl) (by kernel_rfl) ?_
      try clear c_g1 f_g1 a_g1 d_g1 e_g1
      have c_g1 := fun x : Fut _ => (g1.below x.h).cell
      try clear c_g2 f_g2 a_g2 d_g2 e_g2
      have c_g2 := fun x : Fut _ => (g2.below x.h).cell
      repeat (go_big_quiet_step (fail))
      refine wpQuiet_nil ?_
      intro _ hw'
      obtain ⟨xq, hw''⟩ := hw'
      subst hw''
      clear c_g1; replace g1 := g1.below xq.h; have c_g1 := g1.cell; have f_g1 := g1.free; have a_g1 := fun o => (g1.alloc o).cell; have d_g1 := fun o o2 => ((g1.alloc o).alloc o2).cell; have e_g1 := fun o => (g1.alloc o).free
      clear c_g2; replace g2 := g2.below xq.h; have c_g2 := g2.cell; have f_g2 := g2.free; have a_g2 := fun o => (g2.alloc o).cell; have d_g2 := fun o o2 => ((g2.alloc o).alloc o2).cell; have e_g2 := fun o => (g2.alloc o).free
      replace B := B.trans (xq.h.mono B.size)
      go_wp2
      go_ret
      exact ⟨rfl, B⟩
    · have ha : decide (ty < 0) = false := decide_eq_false hneg
      have hb1 : decide ((NT : Int) ≤ ty) = true := by rw [decide_eq_true_iff]; omega
      clear hb hNT hn hty hneg
      go_enter Try.func60, Try.ntmps60
      go_upto_region 1 with (fail)
      refine wp_gen (fun Wv => Bx Wv (w.heap.size) (26) (#[tv, ov, sv]) ∧ Bx Wv (w.heap.size + 1) (72) (#[.int .i64 ty, x]) ∧ Below w.heap.size w Wv) ⟨(((Bx.at_ (by simp)).alloc _)), ((Bx.at_ (by simp))), (((Below.refl _ w).alloc (by simp <;> omega) _).alloc (by simp <;> omega) _)⟩ ?_
      rintro wa1 ⟨g1, g2, b⟩
      replace B := B.trans (b.mono B.size); clear b
      have c_g1 := g1.cell; have f_g1 := g1.free; have a_g1 := fun o => (g1.alloc o).cell; have d_g1 := fun o o2 => ((g1.alloc o).alloc o2).cell; have e_g1 := fun o => (g1.alloc o).free
      have c_g2 := g2.cell; have f_g2 := g2.free; have a_g2 := fun o => (g2.alloc o).cell; have d_g2 := fun o o2 => ((g2.alloc o).alloc o2).cell; have e_g2 := fun o => (g2.alloc o).free
      refine wp_region_calm (by kernel_rfl) (by kernel_rfl) ?_
      try clear c_g1 f_g1 a_g1 d_g1 e_g1
      have c_g1 := fun x : Fut _ => (g1.below x.h).cell
      try clear c_g2 f_g2 a_g2 d_g2 e_g2
      have c_g2 := fun x : Fut _ => (g2.below x.h).cell
      repeat (go_big_quiet_step (fail))
      refine wpQuiet_nil ?_
      intro _ hw'
      obtain ⟨xq, hw''⟩ := hw'
      subst hw''
      clear c_g1; replace g1 := g1.below xq.h; have c_g1 := g1.cell; have f_g1 := g1.free; have a_g1 := fun o => (g1.alloc o).cell; have d_g1 := fun o o2 => ((g1.alloc o).alloc o2).cell; have e_g1 := fun o => (g1.alloc o).free
      clear c_g2; replace g2 := g2.below xq.h; have c_g2 := g2.cell; have f_g2 := g2.free; have a_g2 := fun o => (g2.alloc o).cell; have d_g2 := fun o o2 => ((g2.alloc o).alloc o2).cell; have e_g2 := fun o => (g2.alloc o).free
      replace B := B.trans (xq.h.mono B.size)
      go_wp2
      go_ret
      exact ⟨rfl, B⟩
end Go.Proofs.Ytgjpohhafmkhcaa
