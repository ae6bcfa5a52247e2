/- Contracts of the reference of models: checking one. -/
import Derived.Test.YtgjpohhafmkhcaaC20d
set_option linter.unusedVariables false
set_option linter.unusedSimpArgs false
namespace Go.Proofs.Ytgjpohhafmkhcaa
open Go.RowKit L02 L13 L18 L20

/-- what is asked of a slot, as the code asks it -/
theorem sl_split (NO : Nat) (s : Sl) : (¬ SlOk NO s ∧ (decide (s.gen < 0) = true ∨ (decide (s.gen < 0) = false ∧ decide (2147483647 < s.gen) = true) ∨
      (decide (s.gen < 0) = false ∧ decide (2147483647 < s.gen) = false ∧ ((s.used = false ∧ (s.at_ != 0) = true) ∨ (s.used = true ∧ ((s.gen == 0) = true ∨ ((s.gen == 0) = false ∧ (decide (s.at_ < 0) = true ∨ (decide (s.at_ < 0) = false ∧ decide ((NO : Int) ≤ s.at_) = true)))))))) ) ∨
    (SlOk NO s ∧ decide (s.gen < 0) = false ∧ decide (2147483647 < s.gen) = false ∧ ((s.used = false ∧ (s.at_ != 0) = false) ∨ (s.used = true ∧ (s.gen == 0) = false ∧ decide (s.at_ < 0) = false ∧ decide ((NO : Int) ≤ s.at_) = false))) := by
  obtain ⟨g, u, a⟩ := s
  unfold SlOk
  dsimp only
  simp only [decide_eq_true_eq, decide_eq_false_iff_not, bne_iff_ne, bne_eq_false_iff_eq, beq_iff_eq, beq_eq_false_iff_ne]
  cases u
  · simp only [Bool.false_eq_true, false_and, or_false, true_and, true_implies, false_implies, and_true]
    omega
  · simp only [Bool.true_eq_false, false_and, false_or, true_and, true_implies, false_implies]
    omega

set_option maxRecDepth 100000 in
set_option maxHeartbeats 16000000 in
theorem validR_any (tv ov sv : Value) (m : Mo) (b : Bool) (hb : b = decide (MoOk m)) (w : World) (h : Mod w tv ov sv m) :
    Calls Try.prog 54 #[.agg #[tv, ov, sv]] w fun e w' => e = .returned (.bool b) ∧ Below w.heap.size w w' := by
  have B : Below w.heap.size w w := Below.refl _ _
  have lt := h.t.len; have lo := h.o.len; have ls := h.s.len
  have lt' := h.t.len_le; have lo' := h.o.len_le; have ls' := h.s.len_le
  have hbad : ¬ MoOk m → b = false := fun h2 => by rw [hb, decide_eq_false h2]
  obtain ⟨NT, hNT⟩ : ∃ N, N = m.types.length := ⟨_, rfl⟩
  obtain ⟨NO, hNO⟩ : ∃ N, N = m.objs.length := ⟨_, rfl⟩
  obtain ⟨NS, hNS⟩ : ∃ N, N = m.slots.length := ⟨_, rfl⟩
  rw [← hNT] at lt lt'; rw [← hNO] at lo lo'; rw [← hNS] at ls ls'
  have H := Lib.hid h; have HNT := Lib.hid hNT; have HNO := Lib.hid hNO; have HNS := Lib.hid hNS; have HBAD := Lib.hid hbad; have HB0 := Lib.hid hb
  clear h hNT hNO hNS hbad hb
  go_enter Try.func54, Try.ntmps54
  go_upto_region 1 with (fail)
  refine wp_gen (fun Wv => Bx Wv (w.heap.size) (26) (#[tv, ov, sv]) ∧ Below w.heap.size w Wv) ⟨((Bx.at_ (by simp))), ((Below.refl _ w).alloc (by simp <;> omega) _)⟩ ?_
  rintro wa1 ⟨g1, b⟩
  replace B := B.trans (b.mono B.size); clear b
  have c_g1 := g1.cell; have f_g1 := g1.free; have a_g1 := fun o => (g1.alloc o).cell; have d_g1 := fun o o2 => ((g1.alloc o).alloc o2).cell; have e_g1 := fun o => (g1.alloc o).free
  have HB := Lib.hid B; clear B
  go_wp2
  have HG1 := Lib.hid g1
  clear g1 c_g1 f_g1 a_g1 d_g1 e_g1
  go_loopg [3] NT (fun g i wr => ∃ j : Nat, j ≤ NT ∧ g = NT - j ∧ i = .int .i64 j ∧ Hid ((∀ (i : Nat) t, i < j → m.types[i]? = some t → kErr t = 0) ∧ Bx wr w.heap.size 26 #[tv, ov, sv] ∧ Below w.heap.size w wr))
  case atStart => exact ⟨0, by omega, by omega, rfl, Lib.hid ⟨fun i t hi => by omega, HG1.out, HB.out⟩⟩
  case round =>
    clear HG1 HB
    obtain ⟨j, hj, rfl, rfl, hh⟩ := hrel
    have g1 := hh.out.2.1
    have c_g1 := g1.cell
    by_cases hlt : j < NT
    · obtain ⟨ad, y, t, iy, m0, ht, hby⟩ := (H.out.t.below hh.out.2.2).at_ (k := j) (by have := HNT.out; omega)
      by_cases hk : kErr t = 0
      · have KT := Lib.hid (fun w h => KCheckR_any y t 0 hk.symm w h)
        have HK := Lib.hid hk; clear hk
        go_wp2_with fail
        refine (KT.out _ hby.out).mono ?_
        rintro e w2 ⟨rfl, rfl⟩
        go_wp2
        go_roundg (NT - (j + 1))
        case measure => omega
        case rel =>
          refine ⟨j + 1, by omega, rfl, by go_num, Lib.hid ⟨fun i u hi hu => ?_, hh.out.2⟩⟩
          by_cases hij : i < j
          · exact hh.out.1 i u hij hu
          · obtain rfl : i = j := by omega
            have := ht.out; rw [hu] at this; injection this with this; subst this; exact HK.out
      · have hbf := HBAD.out (no_type ht.out hk)
        subst hbf
        obtain ⟨z, hz⟩ : ∃ z, z = kErr t := ⟨_, rfl⟩
        have KT := Lib.hid (fun w h => KCheckR_any y t z hz w h)
        have hne : (z != 0) = true := by rw [bne_iff_ne, hz]; exact hk
        clear hk hz
        go_wp2_with fail
        refine (KT.out _ hby.out).mono ?_
        rintro e w2 ⟨rfl, rfl⟩
        go_wp2
        go_ret
        exact ⟨rfl, hh.out.2.2⟩
    · obtain rfl : j = NT := by omega
      have HT := Lib.hid (fun i t hi => hh.out.1 i t hi); have HB := Lib.hid hh.out.2.2
      clear hh
      go_wp2
      have HG1 := Lib.hid g1
      clear g1 c_g1
      go_loopg [4] NO (fun g i wr => ∃ k : Nat, k ≤ NO ∧ g = NO - k ∧ i = .int .i64 k ∧ Hid ((∀ (i : Nat) o, i < k → m.objs[i]? = some o → ObOk m.types m.objs.length o) ∧ Bx wr w.heap.size 26 #[tv, ov, sv] ∧ Below w.heap.size w wr))
      case atStart => exact ⟨0, by omega, by omega, rfl, Lib.hid ⟨fun i t hi => by omega, HG1.out, HB.out⟩⟩
      case round =>
        clear HG1 HB
        obtain ⟨k, hk, rfl, rfl, hh⟩ := hrel
        have g1 := hh.out.2.1
        have c_g1 := g1.cell
        by_cases hltk : k < NO
        · obtain ⟨ob, oq, x, o, ix, m0, m1, ho, hx, hob⟩ := (H.out.o.below hh.out.2.2).at_ (k := k) (by have := HNO.out; omega)
          have B := hh.out.2.2; have HA := Lib.hid hh.out.1
          have hxx := hx.out
          obtain ⟨xA, xn, xc, rfl⟩ : ∃ A n c, x = .slice A n c := by obtain ⟨A, c, e, _⟩ := hx.out; exact ⟨A, _, c, e⟩
          have lx := Rd.len hxx Try.underlying70
          have lx' := Rd.len_le hxx
          obtain ⟨n, hn⟩ : ∃ N, N = o.fs.length := ⟨_, rfl⟩
          rw [← hn] at lx lx'
          have HN := Lib.hid hn; clear hn hx
          clear hh
          go_upto_region 10 with (fail)
          refine wp_gen (fun Wv => Bx Wv (wr.heap.size) (72) (#[.int .i64 o.ty, .slice xA xn xc]) ∧ Below wr.heap.size wr Wv) ⟨((Bx.at_ (by simp))), ((Below.refl _ wr).alloc (by simp <;> omega) _)⟩ ?_
          rintro wa1 ⟨g2, b⟩
          try clear c_g1 f_g1 a_g1 d_g1 e_g1
          replace g1 := g1.below b; have c_g1 := g1.cell; have f_g1 := g1.free; have a_g1 := fun o => (g1.alloc o).cell; have d_g1 := fun o o2 => ((g1.alloc o).alloc o2).cell; have e_g1 := fun o => (g1.alloc o).free; replace hxx := hxx.below b; replace B := B.trans (b.mono B.size); clear b
          have c_g2 := g2.cell; have f_g2 := g2.free; have a_g2 := fun o => (g2.alloc o).cell; have d_g2 := fun o o2 => ((g2.alloc o).alloc o2).cell; have e_g2 := fun o => (g2.alloc o).free
          clear m0 m1
          by_cases hty : 0 ≤ o.ty ∧ o.ty < j
          · obtain ⟨q, hq⟩ := Int.eq_ofNat_of_zero_le hty.1
            have hqt : q < m.types.length := by have := HNT.out; omega
            obtain ⟨ad, y, t, iy, m0, ht, hby⟩ := (H.out.t.below B).at_ hqt
            have ht' : ty m.types o = t := by rw [ty, hq]; simp [List.getD_eq_getElem?_getD, ht.out]
            have hby' := hby.out
            have ly := Rd.len hby' Try.underlying74
            obtain ⟨nt, hnt⟩ : ∃ N, N = t.length := ⟨_, rfl⟩
            rw [← hnt] at ly
            have HNt := Lib.hid hnt
            have HTY := Lib.hid (And.intro hty ht'); have HQ := Lib.hid hq
            have ha : decide ((q : Int) < 0) = false := by rw [decide_eq_false_iff_not]; omega
            have hb1 : decide ((j : Int) ≤ (q : Int)) = false := by rw [decide_eq_false_iff_not]; omega
            have hb2 : decide (j ≤ q) = false := by rw [decide_eq_false_iff_not]; omega
            rw [hq] at g2 c_g2 a_g2 d_g2
            clear hby hq hty ht' hqt ht
            by_cases hl : n = nt
            · have hc : ((n : Int) != (nt : Int)) = false := by rw [bne_eq_false_iff_eq]; omega
              have HL := Lib.hid hl
              clear hnt hl
              refine wp_region_calm (by kernel_rfl) (by kernel_rfl) ?_
              try clear c_g1 f_g1 a_g1 d_g1 e_g1
              have c_g1 := fun x : Fut _ => (g1.below x.h).cell
              try clear c_g2 f_g2 a_g2 d_g2 e_g2
              have c_g2 := fun x : Fut _ => (g2.below x.h).cell
              have c_m0 := fun x : Fut _ => cell_later x.h m0
              repeat (go_big_quiet_step (fail))
              refine wpQuiet_nil ?_
              intro _ hw'
              obtain ⟨xq, hw''⟩ := hw'
              subst hw''
              clear c_g1; replace g1 := g1.below xq.h; have c_g1 := g1.cell; have f_g1 := g1.free; have a_g1 := fun o => (g1.alloc o).cell; have d_g1 := fun o o2 => ((g1.alloc o).alloc o2).cell; have e_g1 := fun o => (g1.alloc o).free
              clear c_g2; replace g2 := g2.below xq.h; have c_g2 := g2.cell; have f_g2 := g2.free; have a_g2 := fun o => (g2.alloc o).cell; have d_g2 := fun o o2 => ((g2.alloc o).alloc o2).cell; have e_g2 := fun o => (g2.alloc o).free
              replace hxx := hxx.below xq.h
              clear c_m0; replace m0 := cell_later xq.h m0
              replace hby' := hby'.below xq.h
              replace B := B.trans (xq.h.mono B.size)
              go_wp2
              have HH := Lib.hid (And.intro g1 (And.intro g2 B))
              have HXX := Lib.hid hxx; have HBY := Lib.hid hby'
              have HM0 := Lib.hid m0
              clear g1 g2 c_g1 c_g2 f_g1 f_g2 a_g1 a_g2 d_g1 d_g2 e_g1 e_g2 B hxx hby' m0
              go_loopg [6] n (fun g i wr2 => ∃ p : Nat, p ≤ n ∧ g = n - p ∧ i = .int .i64 p ∧ Hid ((∀ i, i < p → FdOk NO (t.getD i 0) (o.fs.getD i 0)) ∧ Bx wr2 w.heap.size 26 #[tv, ov, sv] ∧ Bx wr2 wr.heap.size 72 #[.int .i64 (q : Int), .slice xA xn xc] ∧ Below w.heap.size w wr2 ∧ Words wr2 (.slice xA xn xc) o.fs ∧ Byts wr2 y t ∧ wr2.cell? ad = some y))
              case atStart => exact ⟨0, by omega, by omega, rfl, Lib.hid ⟨fun i hi => by omega, HH.out.1, HH.out.2.1, HH.out.2.2, HXX.out, HBY.out, HM0.out⟩⟩
              case round =>
                clear HH HXX HBY HM0
                obtain ⟨p, hp, rfl, rfl, hh⟩ := hrel
                have HA2 := Lib.hid hh.out.1
                obtain ⟨g1, g2, B, hxx, hby', m0⟩ := hh.out.2
                have c_g1 := g1.cell; have c_g2 := g2.cell
                clear hh
                by_cases hltp : p < n
                · obtain ⟨bd, kk, ib, m1, hkk⟩ := hby'.at_ (P := Try.prog) Try.underlying74 one_u8 (k := p) (by have := HNt.out; have := HL.out; omega)
                  obtain ⟨cd, v, ic, m2, hv⟩ := hxx.at_ (P := Try.prog) Try.underlying70 one_u64 (k := p) (by have := HN.out; omega)
                  have ek : t.getD p 0 = kk := by simp [List.getD_eq_getElem?_getD, hkk.out]
                  have ev : o.fs.getD p 0 = v := by simp [List.getD_eq_getElem?_getD, hv.out]
                  have EK := Lib.hid ek; have EV := Lib.hid ev
                  clear hkk hv ek ev
                  have hwn : IntKind.u64.wrap ((NO : Nat) : Int) = (NO : Int) := by show (NO : Int) % 18446744073709551616 = _; omega
                  have FT := Lib.hid (fun b hb w => FloatR_any v b hb w)
                  have hcase := fd_split NO kk v
                  have hno : ∀ z, FdOk NO kk v = z → (z → False) → b = false := fun z hz hf => HBAD.out (no_obj ho.out (fun hoo => by
                    have h1 := hoo.2.2 p (by rw [← HN.out]; exact hltp)
                    rw [HTY.out.2, EK.out, EV.out, ← HNO.out, hz] at h1
                    exact hf h1))
                  have HNO2 := Lib.hid hno; clear hno
                  rcases hcase with ⟨z, e2, zf⟩ | ⟨z, e3, zf⟩ | ⟨z, e2, zf⟩ | ⟨z, e3, zf⟩ | ⟨z, e2, e3⟩
                  · have hbf : b = false := HNO2.out _ rfl z
                    have k2 : ((kk.toNat : Int) == 2) = true := by rw [beq_iff_eq]; omega
                    have FT1 := Lib.hid (FT.out false (decide_eq_false zf).symm)
                    clear z e2 zf FT
                    subst hbf
                    go_wp2
                    refine wp_region_calm (by kernel_rfl) (by kernel_rfl) ?_
                    try clear c_g1 f_g1 a_g1 d_g1 e_g1
                    have c_g1 := fun x : Fut _ => (g1.below x.h).cell
                    try clear c_g2 f_g2 a_g2 d_g2 e_g2
                    have c_g2 := fun x : Fut _ => (g2.below x.h).cell
                    have c_m0 := fun x : Fut _ => cell_later x.h m0
                    have c_m1 := fun x : Fut _ => cell_later x.h m1
                    have c_m2 := fun x : Fut _ => cell_later x.h m2
                    repeat (go_big_quiet_step (exact Fut.call (FT1.out _)))
                    refine wpQuiet_nil ?_
                    intro _ hw'
                    obtain ⟨xq, hw''⟩ := hw'
                    subst hw''
                    clear c_g1; replace g1 := g1.below xq.h; have c_g1 := g1.cell; have f_g1 := g1.free; have a_g1 := fun o => (g1.alloc o).cell; have d_g1 := fun o o2 => ((g1.alloc o).alloc o2).cell; have e_g1 := fun o => (g1.alloc o).free
                    clear c_g2; replace g2 := g2.below xq.h; have c_g2 := g2.cell; have f_g2 := g2.free; have a_g2 := fun o => (g2.alloc o).cell; have d_g2 := fun o o2 => ((g2.alloc o).alloc o2).cell; have e_g2 := fun o => (g2.alloc o).free
                    replace hxx := hxx.below xq.h
                    replace hby' := hby'.below xq.h
                    clear c_m0; replace m0 := cell_later xq.h m0
                    clear c_m1; replace m1 := cell_later xq.h m1
                    clear c_m2; replace m2 := cell_later xq.h m2
                    replace B := B.trans (xq.h.mono B.size)
                    go_wp2
                    go_ret
                    exact ⟨rfl, B⟩
                  · have hbf : b = false := HNO2.out _ rfl z
                    have k2 : ((kk.toNat : Int) == 2) = false := by rw [beq_eq_false_iff_ne]; omega
                    have k3 : ((kk.toNat : Int) == 3) = true := by rw [beq_iff_eq]; omega
                    clear z e3 FT
                    subst hbf
                    go_wp2
                    refine wp_region_calm (by kernel_rfl) (by kernel_rfl) ?_
                    try clear c_g1 f_g1 a_g1 d_g1 e_g1
                    have c_g1 := fun x : Fut _ => (g1.below x.h).cell
                    try clear c_g2 f_g2 a_g2 d_g2 e_g2
                    have c_g2 := fun x : Fut _ => (g2.below x.h).cell
                    have c_m0 := fun x : Fut _ => cell_later x.h m0
                    have c_m1 := fun x : Fut _ => cell_later x.h m1
                    have c_m2 := fun x : Fut _ => cell_later x.h m2
                    repeat (go_big_quiet_step (fail))
                    refine wpQuiet_nil ?_
                    intro _ hw'
                    obtain ⟨xq, hw''⟩ := hw'
                    subst hw''
                    clear c_g1; replace g1 := g1.below xq.h; have c_g1 := g1.cell; have f_g1 := g1.free; have a_g1 := fun o => (g1.alloc o).cell; have d_g1 := fun o o2 => ((g1.alloc o).alloc o2).cell; have e_g1 := fun o => (g1.alloc o).free
                    clear c_g2; replace g2 := g2.below xq.h; have c_g2 := g2.cell; have f_g2 := g2.free; have a_g2 := fun o => (g2.alloc o).cell; have d_g2 := fun o o2 => ((g2.alloc o).alloc o2).cell; have e_g2 := fun o => (g2.alloc o).free
                    replace hxx := hxx.below xq.h
                    replace hby' := hby'.below xq.h
                    clear c_m0; replace m0 := cell_later xq.h m0
                    clear c_m1; replace m1 := cell_later xq.h m1
                    clear c_m2; replace m2 := cell_later xq.h m2
                    replace B := B.trans (xq.h.mono B.size)
                    go_wp2
                    go_ret
                    exact ⟨rfl, B⟩
                  · have k2 : ((kk.toNat : Int) == 2) = true := by rw [beq_iff_eq]; omega
                    have k3 : ((kk.toNat : Int) == 3) = false := by rw [beq_eq_false_iff_ne]; omega
                    have FT1 := Lib.hid (FT.out true (decide_eq_true zf).symm)
                    have HZ := Lib.hid z
                    clear z e2 zf FT
                    go_wp2
                    refine wp_region_calm (by kernel_rfl) (by kernel_rfl) ?_
                    try clear c_g1 f_g1 a_g1 d_g1 e_g1
                    have c_g1 := fun x : Fut _ => (g1.below x.h).cell
                    try clear c_g2 f_g2 a_g2 d_g2 e_g2
                    have c_g2 := fun x : Fut _ => (g2.below x.h).cell
                    have c_m0 := fun x : Fut _ => cell_later x.h m0
                    have c_m1 := fun x : Fut _ => cell_later x.h m1
                    have c_m2 := fun x : Fut _ => cell_later x.h m2
                    repeat (go_big_quiet_step (exact Fut.call (FT1.out _)))
                    refine wpQuiet_nil ?_
                    intro _ hw'
                    obtain ⟨xq, hw''⟩ := hw'
                    subst hw''
                    clear c_g1; replace g1 := g1.below xq.h; have c_g1 := g1.cell; have f_g1 := g1.free; have a_g1 := fun o => (g1.alloc o).cell; have d_g1 := fun o o2 => ((g1.alloc o).alloc o2).cell; have e_g1 := fun o => (g1.alloc o).free
                    clear c_g2; replace g2 := g2.below xq.h; have c_g2 := g2.cell; have f_g2 := g2.free; have a_g2 := fun o => (g2.alloc o).cell; have d_g2 := fun o o2 => ((g2.alloc o).alloc o2).cell; have e_g2 := fun o => (g2.alloc o).free
                    replace hxx := hxx.below xq.h
                    replace hby' := hby'.below xq.h
                    clear c_m0; replace m0 := cell_later xq.h m0
                    clear c_m1; replace m1 := cell_later xq.h m1
                    clear c_m2; replace m2 := cell_later xq.h m2
                    replace B := B.trans (xq.h.mono B.size)
                    go_wp2
                    have HH := Lib.hid (And.intro g1 (And.intro g2 (And.intro B (And.intro hxx (And.intro hby' m0)))))
                    clear g1 g2 c_g1 c_g2 f_g1 f_g2 a_g1 a_g2 d_g1 d_g2 e_g1 e_g2 B hxx hby' m0 m1 m2
                    go_roundg (n - (p + 1))
                    case measure => omega
                    case rel =>
                      refine ⟨p + 1, by omega, rfl, by go_num, Lib.hid ⟨fun i hi => ?_, HH.out⟩⟩
                      by_cases hij : i < p
                      · exact HA2.out i hij
                      · obtain rfl : i = p := by omega
                        rw [EK.out, EV.out]; exact HZ.out
                  · have k2 : ((kk.toNat : Int) == 2) = false := by rw [beq_eq_false_iff_ne]; omega
                    have k3 : ((kk.toNat : Int) == 3) = true := by rw [beq_iff_eq]; omega
                    have HZ := Lib.hid z
                    have zf2 : ¬ NO < v.toNat := by omega
                    clear z e3 FT zf
                    go_wp2
                    refine wp_region_calm (by kernel_rfl) (by kernel_rfl) ?_
                    try clear c_g1 f_g1 a_g1 d_g1 e_g1
                    have c_g1 := fun x : Fut _ => (g1.below x.h).cell
                    try clear c_g2 f_g2 a_g2 d_g2 e_g2
                    have c_g2 := fun x : Fut _ => (g2.below x.h).cell
                    have c_m0 := fun x : Fut _ => cell_later x.h m0
                    have c_m1 := fun x : Fut _ => cell_later x.h m1
                    have c_m2 := fun x : Fut _ => cell_later x.h m2
                    repeat (go_big_quiet_step (fail))
                    refine wpQuiet_nil ?_
                    intro _ hw'
                    obtain ⟨xq, hw''⟩ := hw'
                    subst hw''
                    clear c_g1; replace g1 := g1.below xq.h; have c_g1 := g1.cell; have f_g1 := g1.free; have a_g1 := fun o => (g1.alloc o).cell; have d_g1 := fun o o2 => ((g1.alloc o).alloc o2).cell; have e_g1 := fun o => (g1.alloc o).free
                    clear c_g2; replace g2 := g2.below xq.h; have c_g2 := g2.cell; have f_g2 := g2.free; have a_g2 := fun o => (g2.alloc o).cell; have d_g2 := fun o o2 => ((g2.alloc o).alloc o2).cell; have e_g2 := fun o => (g2.alloc o).free
                    replace hxx := hxx.below xq.h
                    replace hby' := hby'.below xq.h
                    clear c_m0; replace m0 := cell_later xq.h m0
                    clear c_m1; replace m1 := cell_later xq.h m1
                    clear c_m2; replace m2 := cell_later xq.h m2
                    replace B := B.trans (xq.h.mono B.size)
                    go_wp2
                    have HH := Lib.hid (And.intro g1 (And.intro g2 (And.intro B (And.intro hxx (And.intro hby' m0)))))
                    clear g1 g2 c_g1 c_g2 f_g1 f_g2 a_g1 a_g2 d_g1 d_g2 e_g1 e_g2 B hxx hby' m0 m1 m2
                    go_roundg (n - (p + 1))
                    case measure => omega
                    case rel =>
                      refine ⟨p + 1, by omega, rfl, by go_num, Lib.hid ⟨fun i hi => ?_, HH.out⟩⟩
                      by_cases hij : i < p
                      · exact HA2.out i hij
                      · obtain rfl : i = p := by omega
                        rw [EK.out, EV.out]; exact HZ.out
                  · have k2 : ((kk.toNat : Int) == 2) = false := by rw [beq_eq_false_iff_ne]; omega
                    have k3 : ((kk.toNat : Int) == 3) = false := by rw [beq_eq_false_iff_ne]; omega
                    have HZ := Lib.hid z
                    clear z e2 e3 FT
                    go_wp2
                    refine wp_region_calm (by kernel_rfl) (by kernel_rfl) ?_
                    try clear c_g1 f_g1 a_g1 d_g1 e_g1
                    have c_g1 := fun x : Fut _ => (g1.below x.h).cell
                    try clear c_g2 f_g2 a_g2 d_g2 e_g2
                    have c_g2 := fun x : Fut _ => (g2.below x.h).cell
                    have c_m0 := fun x : Fut _ => cell_later x.h m0
                    have c_m1 := fun x : Fut _ => cell_later x.h m1
                    have c_m2 := fun x : Fut _ => cell_later x.h m2
                    repeat (go_big_quiet_step (fail))
                    refine wpQuiet_nil ?_
                    intro _ hw'
                    obtain ⟨xq, hw''⟩ := hw'
                    subst hw''
                    clear c_g1; replace g1 := g1.below xq.h; have c_g1 := g1.cell; have f_g1 := g1.free; have a_g1 := fun o => (g1.alloc o).cell; have d_g1 := fun o o2 => ((g1.alloc o).alloc o2).cell; have e_g1 := fun o => (g1.alloc o).free
                    clear c_g2; replace g2 := g2.below xq.h; have c_g2 := g2.cell; have f_g2 := g2.free; have a_g2 := fun o => (g2.alloc o).cell; have d_g2 := fun o o2 => ((g2.alloc o).alloc o2).cell; have e_g2 := fun o => (g2.alloc o).free
                    replace hxx := hxx.below xq.h
                    replace hby' := hby'.below xq.h
                    clear c_m0; replace m0 := cell_later xq.h m0
                    clear c_m1; replace m1 := cell_later xq.h m1
                    clear c_m2; replace m2 := cell_later xq.h m2
                    replace B := B.trans (xq.h.mono B.size)
                    go_wp2
                    have HH := Lib.hid (And.intro g1 (And.intro g2 (And.intro B (And.intro hxx (And.intro hby' m0)))))
                    clear g1 g2 c_g1 c_g2 f_g1 f_g2 a_g1 a_g2 d_g1 d_g2 e_g1 e_g2 B hxx hby' m0 m1 m2
                    go_roundg (n - (p + 1))
                    case measure => omega
                    case rel =>
                      refine ⟨p + 1, by omega, rfl, by go_num, Lib.hid ⟨fun i hi => ?_, HH.out⟩⟩
                      by_cases hij : i < p
                      · exact HA2.out i hij
                      · obtain rfl : i = p := by omega
                        rw [EK.out, EV.out]; exact HZ.out
                · obtain rfl : p = n := by omega
                  have hoo : ObOk m.types m.objs.length o := by
                    have h0 := HTY.out
                    have h1 := HNT.out; have h2 := HN.out; have h3 := HNt.out; have h4 := HL.out
                    refine ⟨by omega, by rw [h0.2]; omega, fun i hi => ?_⟩
                    rw [h0.2, ← HNO.out]
                    exact HA2.out i (by omega)
                  have HOO := Lib.hid hoo; clear hoo
                  go_wp2
                  have HH := Lib.hid (And.intro g1 B)
                  clear g1 g2 c_g1 c_g2 B hxx hby' m0
                  go_roundg (NO - (k + 1))
                  case measure => omega
                  case rel =>
                    refine ⟨k + 1, by omega, rfl, by go_num, Lib.hid ⟨fun i u hi hu => ?_, HH.out⟩⟩
                    by_cases hik : i < k
                    · exact HA.out i u hik hu
                    · obtain rfl : i = k := by omega
                      have := ho.out; rw [hu] at this; injection this with this; subst this
                      exact HOO.out
            · have hc : ((n : Int) != (nt : Int)) = true := by rw [bne_iff_ne]; omega
              have hbf : b = false := HBAD.out (no_obj ho.out (fun hoo => hl (by have h1 := hoo.2.1; have h2 := HTY.out.2; rw [h2, ← HNt.out, ← HN.out] at h1; exact h1)))
              subst hbf
              clear hnt hl
              refine wp_region_calm (by kernel_rfl) (by kernel_rfl) ?_
              try clear c_g1 f_g1 a_g1 d_g1 e_g1
              have c_g1 := fun x : Fut _ => (g1.below x.h).cell
              try clear c_g2 f_g2 a_g2 d_g2 e_g2
              have c_g2 := fun x : Fut _ => (g2.below x.h).cell
              have c_m0 := fun x : Fut _ => cell_later x.h m0
              repeat (go_big_quiet_step (fail))
              refine wpQuiet_nil ?_
              intro _ hw'
              obtain ⟨xq, hw''⟩ := hw'
              subst hw''
              clear c_g1; replace g1 := g1.below xq.h; have c_g1 := g1.cell; have f_g1 := g1.free; have a_g1 := fun o => (g1.alloc o).cell; have d_g1 := fun o o2 => ((g1.alloc o).alloc o2).cell; have e_g1 := fun o => (g1.alloc o).free
              clear c_g2; replace g2 := g2.below xq.h; have c_g2 := g2.cell; have f_g2 := g2.free; have a_g2 := fun o => (g2.alloc o).cell; have d_g2 := fun o o2 => ((g2.alloc o).alloc o2).cell; have e_g2 := fun o => (g2.alloc o).free
              replace hxx := hxx.below xq.h
              clear c_m0; replace m0 := cell_later xq.h m0
              replace hby' := hby'.below xq.h
              replace B := B.trans (xq.h.mono B.size)
              go_wp2
              go_ret
              exact ⟨rfl, B⟩
          · have hbf : b = false := HBAD.out (no_obj ho.out (fun hoo => hty (by have := HNT.out; have := hoo.1; omega)))
            subst hbf
            obtain ⟨ty, fs⟩ := o
            dsimp only at *
            by_cases hneg : ty < 0
            · have ha : decide (ty < 0) = true := decide_eq_true hneg
              clear hty hneg
              refine wp_region_calm (by kernel_rfl) (by kernel_rfl) ?_
              try clear c_g1 f_g1 a_g1 d_g1 e_g1
              have c_g1 := fun x : Fut _ => (g1.below x.h).cell
              try clear c_g2 f_g2 a_g2 d_g2 e_g2
              have c_g2 := fun x : Fut _ => (g2.below x.h).cell
              repeat (go_big_quiet_step (fail))
              refine wpQuiet_nil ?_
              intro _ hw'
              obtain ⟨xq, hw''⟩ := hw'
              subst hw''
              clear c_g1; replace g1 := g1.below xq.h; have c_g1 := g1.cell; have f_g1 := g1.free; have a_g1 := fun o => (g1.alloc o).cell; have d_g1 := fun o o2 => ((g1.alloc o).alloc o2).cell; have e_g1 := fun o => (g1.alloc o).free
              clear c_g2; replace g2 := g2.below xq.h; have c_g2 := g2.cell; have f_g2 := g2.free; have a_g2 := fun o => (g2.alloc o).cell; have d_g2 := fun o o2 => ((g2.alloc o).alloc o2).cell; have e_g2 := fun o => (g2.alloc o).free
              replace B := B.trans (xq.h.mono B.size)
              go_wp2
              go_ret
              exact ⟨rfl, B⟩
            · have ha : decide (ty < 0) = false := decide_eq_false hneg
              have hb1 : decide ((j : Int) ≤ ty) = true := by rw [decide_eq_true_iff]; omega
              clear hty hneg
              refine wp_region_calm (by kernel_rfl) (by kernel_rfl) ?_
              try clear c_g1 f_g1 a_g1 d_g1 e_g1
              have c_g1 := fun x : Fut _ => (g1.below x.h).cell
              try clear c_g2 f_g2 a_g2 d_g2 e_g2
              have c_g2 := fun x : Fut _ => (g2.below x.h).cell
              repeat (go_big_quiet_step (fail))
              refine wpQuiet_nil ?_
              intro _ hw'
              obtain ⟨xq, hw''⟩ := hw'
              subst hw''
              clear c_g1; replace g1 := g1.below xq.h; have c_g1 := g1.cell; have f_g1 := g1.free; have a_g1 := fun o => (g1.alloc o).cell; have d_g1 := fun o o2 => ((g1.alloc o).alloc o2).cell; have e_g1 := fun o => (g1.alloc o).free
              clear c_g2; replace g2 := g2.below xq.h; have c_g2 := g2.cell; have f_g2 := g2.free; have a_g2 := fun o => (g2.alloc o).cell; have d_g2 := fun o o2 => ((g2.alloc o).alloc o2).cell; have e_g2 := fun o => (g2.alloc o).free
              replace B := B.trans (xq.h.mono B.size)
              go_wp2
              go_ret
              exact ⟨rfl, B⟩
        · obtain rfl : k = NO := by omega
          have HO := Lib.hid (fun i t hi => hh.out.1 i t hi); have HB := Lib.hid hh.out.2.2
          clear hh
          go_wp2
          have HG1 := Lib.hid g1
          clear g1 c_g1
          go_loopg [8] NS (fun g i wr => ∃ q : Nat, q ≤ NS ∧ g = NS - q ∧ i = .int .i64 q ∧ Hid ((∀ (i : Nat) o, i < q → m.slots[i]? = some o → SlOk m.objs.length o) ∧ Bx wr w.heap.size 26 #[tv, ov, sv] ∧ Below w.heap.size w wr))
          case atStart => exact ⟨0, by omega, by omega, rfl, Lib.hid ⟨fun i t hi => by omega, HG1.out, HB.out⟩⟩
          case round =>
            clear HG1 HB
            obtain ⟨q, hq, rfl, rfl, hh⟩ := hrel
            have g1 := hh.out.2.1
            have c_g1 := g1.cell
            have B := hh.out.2.2; have HA := Lib.hid hh.out.1
            by_cases hltq : q < NS
            · obtain ⟨sb, sq, s, ix, m0, m1, m2, hs⟩ := (H.out.s.below B).at_ (P := Try.prog) Try.underlying24 size_slot (k := q) (by have := HNS.out; omega)
              have hcase := sl_split k s
              have hsn : ¬ SlOk k s → b = false := fun hn => HBAD.out (no_slot hs.out (by rw [← HNO.out]; exact hn))
              have HSN := Lib.hid hsn; clear hsn hh
              have HSS := Lib.hid hs.out; clear hs
              obtain ⟨gn, us, sa⟩ := s
              dsimp only at m0 m1 m2 hcase
              go_upto_region 22 with (fail)
              refine wp_gen (fun Wv => Bx Wv (wr.heap.size) (67) (#[.int .i64 gn, .bool us, .int .i64 sa]) ∧ Below wr.heap.size wr Wv) ⟨((Bx.at_ (by simp))), ((Below.refl _ wr).alloc (by simp <;> omega) _)⟩ ?_
              rintro wa1 ⟨g2, b⟩
              try clear c_g1 f_g1 a_g1 d_g1 e_g1
              replace g1 := g1.below b; have c_g1 := g1.cell; have f_g1 := g1.free; have a_g1 := fun o => (g1.alloc o).cell; have d_g1 := fun o o2 => ((g1.alloc o).alloc o2).cell; have e_g1 := fun o => (g1.alloc o).free; replace B := B.trans (b.mono B.size); clear b
              have c_g2 := g2.cell; have f_g2 := g2.free; have a_g2 := fun o => (g2.alloc o).cell; have d_g2 := fun o o2 => ((g2.alloc o).alloc o2).cell; have e_g2 := fun o => (g2.alloc o).free
              clear m0 m1 m2
              rcases hcase with ⟨z, h1⟩ | ⟨z, h1, h2, h3⟩
              · have hbf : b = false := HSN.out z
                subst hbf
                clear z
                rcases h1 with h1 | ⟨h1, h2⟩ | ⟨h1, h2, ⟨rfl, h3⟩ | ⟨rfl, h3 | ⟨h3, h4 | ⟨h4, h5⟩⟩⟩⟩
                all_goals
                  go_wp2
                  go_ret
                  exact ⟨rfl, B⟩
              · have HZ := Lib.hid z; clear z
                have HH := Lib.hid (And.intro g1 B)
                rcases h3 with ⟨rfl, h3⟩ | ⟨rfl, h3, h4, h5⟩
                all_goals
                  go_wp2
                  clear g1 g2 c_g1 c_g2 f_g1 f_g2 a_g1 a_g2 d_g1 d_g2 e_g1 e_g2 B
                  go_roundg (NS - (q + 1))
                  case measure => omega
                  case rel =>
                    refine ⟨q + 1, by omega, rfl, by go_num, Lib.hid ⟨fun i u hi hu => ?_, ?_⟩⟩
                    · by_cases hik : i < q
                      · exact HA.out i u hik hu
                      · obtain rfl : i = q := by omega
                        have := HSS.out; rw [hu] at this; injection this with this; subst this
                        rw [← HNO.out]; exact HZ.out
                    · exact HH.out
            · obtain rfl : q = NS := by omega
              have hfin : b = decide (q = 16) := by
                rw [HB0.out]
                congr 1
                rw [eq_iff_iff]
                refine ⟨fun hm => by rw [HNS.out]; exact hm.1, fun h16 => ⟨by rw [← HNS.out]; exact h16, fun t ht => ?_, fun o ho => ?_, fun s hs => ?_⟩⟩
                · obtain ⟨i, hi, hit⟩ := List.getElem_of_mem ht
                  exact HT.out i t (by rw [HNT.out]; exact hi) (by rw [List.getElem?_eq_getElem hi, hit])
                · obtain ⟨i, hi, hit⟩ := List.getElem_of_mem ho
                  exact HO.out i o (by rw [HNO.out]; exact hi) (by rw [List.getElem?_eq_getElem hi, hit])
                · obtain ⟨i, hi, hit⟩ := List.getElem_of_mem hs
                  exact HA.out i s (by rw [HNS.out]; exact hi) (by rw [List.getElem?_eq_getElem hi, hit])
              have HF := Lib.hid hfin; clear hfin
              go_wp2
              go_ret
              refine ⟨ret_bool ?_, B⟩
              rw [HF.out, Bool.eq_iff_iff, beq_iff_eq, decide_eq_true_iff]; omega
end Go.Proofs.Ytgjpohhafmkhcaa
