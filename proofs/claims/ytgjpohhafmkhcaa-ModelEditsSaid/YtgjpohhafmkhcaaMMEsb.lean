/- Contracts of the functions that the law 'ModelEdits' reaches, part 2. No condition. -/
import Derived.Test.YtgjpohhafmkhcaaMMEsa
set_option linter.unusedVariables false
set_option linter.unusedSimpArgs false
namespace Go.Proofs.Ytgjpohhafmkhcaa
open Go.RowKit L02 L13 L18 L20
/-- what is asked of a slot, as the code asks it -/
theorem sl_split (NO : Nat) (s : Sl) : (¬ SlOk NO s ∧ (decide (s.gen < 0) = true ∨ (decide (s.gen < 0) = false ∧ decide (2147483647 < s.gen) = true) ∨
      (decide (s.gen < 0) = false ∧ decide (2147483647 < s.gen) = false ∧ ((s.used = false ∧ (s.at_ != 0) = true) ∨ (s.used = true ∧ ((s.gen == 0) = true ∨ ((s.gen == 0) = false ∧ (decide (s.at_ < 0) = true ∨ (decide (s.at_ < 0) = false ∧ decide ((NO : Int) ≤ s.at_) = true)))))))) ) ∨
    (SlOk NO s ∧ decide (s.gen < 0) = false ∧ decide (2147483647 < s.gen) = false ∧ ((s.used = false ∧ (s.at_ != 0) = false) ∨ (s.used = true ∧ (s.gen == 0) = false ∧ decide (s.at_ < 0) = false ∧ decide ((NO : Int) ≤ s.at_) = false))) := by
  obtain ⟨g, u, a⟩ := s
  unfold SlOk
  dsimp only
  simp only [decide_eq_true_eq, decide_eq_false_iff_not, bne_iff_ne, bne_eq_false_iff_eq, beq_iff_eq, beq_eq_false_iff_ne]
  cases u
  · simp only [Bool.false_eq_true, false_and, or_false, true_and, true_implies, false_implies, and_true]
    omega
  · simp only [Bool.true_eq_false, false_and, false_or, true_and, true_implies, false_implies]
    omega
set_option maxRecDepth 100000 in
set_option maxHeartbeats 16000000 in
theorem validR_any (tv ov sv : Value) (m : Mo) (b : Bool) (hb : b = decide (MoOk m)) (w : World) (h : Mod w tv ov sv m) :
    Calls Try.prog 54 #[.agg #[tv, ov, sv]] w fun e w' => e = .returned (.bool b) ∧ Below w.heap.size w w' := by
  have B : Below w.heap.size w w := Below.refl _ _
  have lt := h.t.len; have lo := h.o.len; have ls := h.s.len
  have lt' := h.t.len_le; have lo' := h.o.len_le; have ls' := h.s.len_le
  have hbad : ¬ MoOk m → b = false := fun h2 => by rw [hb, decide_eq_false h2]
  obtain ⟨NT, hNT⟩ : ∃ N, N = m.types.length := ⟨_, rfl⟩
  obtain ⟨NO, hNO⟩ : ∃ N, N = m.objs.length := ⟨_, rfl⟩
  obtain ⟨NS, hNS⟩ : ∃ N, N = m.slots.length := ⟨_, rfl⟩
  rw [← hNT] at lt lt'; rw [← hNO] at lo lo'; rw [← hNS] at ls ls'
  have H := Lib.hid h; have HNT := Lib.hid hNT; have HNO := Lib.hid hNO; have HNS := Lib.hid hNS; have HBAD := Lib.hid hbad; have HB0 := Lib.hid hb
  clear h hNT hNO hNS hbad hb
  go_enter Try.func54, Try.ntmps54
  go_upto_region 1 with (fail)
  refine wp_gen (fun Wv => Bx Wv (w.heap.size) (26) (#[tv, ov, sv]) ∧ Below w.heap.size w Wv) ⟨((Bx.at_ (by simp))), ((Below.refl _ w).alloc (by simp <;> omega) _)⟩ ?_
  rintro wa1 ⟨g1, b⟩
  replace B := B.trans (b.mono B.size); clear b
  have c_g1 := g1.cell; have f_g1 := g1.free; have a_g1 := fun o => (g1.alloc o).cell; have d_g1 := fun o o2 => ((g1.alloc o).alloc o2).cell; have e_g1 := fun o => (g1.alloc o).free
  have HB := Lib.hid B; clear B
  go_wp2
  have HG1 := Lib.hid g1
  clear g1 c_g1 f_g1 a_g1 d_g1 e_g1
  go_loopg [3] NT (fun g i wr => ∃ j : Nat, j ≤ NT ∧ g = NT - j ∧ i = .int .i64 j ∧ Hid ((∀ (i : Nat) t, i < j → m.types[i]? = some t → kErr t = 0) ∧ Bx wr w.heap.size 26 #[tv, ov, sv] ∧ Below w.heap.size w wr))
  case atStart => exact ⟨0, by omega, by omega, rfl, Lib.hid ⟨fun i t hi => by omega, HG1.out, HB.out⟩⟩
  case round =>
    clear HG1 HB
    obtain ⟨j, hj, rfl, rfl, hh⟩ := hrel
    have g1 := hh.out.2.1
    have c_g1 := g1.cell
    by_cases hlt : j < NT
    · obtain ⟨ad, y, t, iy, m0, ht, hby⟩ := (H.out.t.below hh.out.2.2).at_ (k := j) (by have := HNT.out; omega)
      by_cases hk : kErr t = 0
      · have KT := Lib.hid (fun w h => KCheckR_any y t 0 hk.symm w h)
        have HK := Lib.hid hk; clear hk
        go_wp2_with fail
        refine (KT.out _ hby.out).mono ?_
        rintro e w2 ⟨rfl, rfl⟩
        go_wp2
        go_roundg (NT - (j + 1))
        case measure => omega
        case rel =>
          refine ⟨j + 1, by omega, rfl, by go_num, Lib.hid ⟨fun i u hi hu => ?_, hh.out.2⟩⟩
          by_cases hij : i < j
          · exact hh.out.1 i u hij hu
          · obtain rfl : i = j := by omega
            have := ht.out; rw [hu] at this; injection this with this; subst this; exact HK.out
      · have hbf := HBAD.out (no_type ht.out hk)
        subst hbf
        obtain ⟨z, hz⟩ : ∃ z, z = kErr t := ⟨_, rfl⟩
        have KT := Lib.hid (fun w h => KCheckR_any y t z hz w h)
        have hne : (z != 0) = true := by rw [bne_iff_ne, hz]; exact hk
        clear hk hz
        go_wp2_with fail
        refine (KT.out _ hby.out).mono ?_
        rintro e w2 ⟨rfl, rfl⟩
        go_wp2
        go_ret
        exact ⟨rfl, hh.out.2.2⟩
    · obtain rfl : j = NT := by omega
      have HT := Lib.hid (fun i t hi => hh.out.1 i t hi); have HB := Lib.hid hh.out.2.2
      clear hh
      go_wp2
      have HG1 := Lib.hid g1
      clear g1 c_g1
      go_loopg [4] NO (fun g i wr => ∃ k : Nat, k ≤ NO ∧ g = NO - k ∧ i = .int .i64 k ∧ Hid ((∀ (i : Nat) o, i < k → m.objs[i]? = some o → ObOk m.types m.objs.length o) ∧ Bx wr w.heap.size 26 #[tv, ov, sv] ∧ Below w.heap.size w wr))
      case atStart => exact ⟨0, by omega, by omega, rfl, Lib.hid ⟨fun i t hi => by omega, HG1.out, HB.out⟩⟩
      case round =>
        clear HG1 HB
        obtain ⟨k, hk, rfl, rfl, hh⟩ := hrel
        have g1 := hh.out.2.1
        have c_g1 := g1.cell
        by_cases hltk : k < NO
        · obtain ⟨ob, oq, x, o, ix, m0, m1, ho, hx, hob⟩ := (H.out.o.below hh.out.2.2).at_ (k := k) (by have := HNO.out; omega)
          have B := hh.out.2.2; have HA := Lib.hid hh.out.1
          have hxx := hx.out
          obtain ⟨xA, xn, xc, rfl⟩ : ∃ A n c, x = .slice A n c := by obtain ⟨A, c, e, _⟩ := hx.out; exact ⟨A, _, c, e⟩
          have lx := Rd.len hxx Try.underlying70
          have lx' := Rd.len_le hxx
          obtain ⟨n, hn⟩ : ∃ N, N = o.fs.length := ⟨_, rfl⟩
          rw [← hn] at lx lx'
          have HN := Lib.hid hn; clear hn hx
          clear hh
          go_upto_region 10 with (fail)
          refine wp_gen (fun Wv => Bx Wv (wr.heap.size) (72) (#[.int .i64 o.ty, .slice xA xn xc]) ∧ Below wr.heap.size wr Wv) ⟨((Bx.at_ (by simp))), ((Below.refl _ wr).alloc (by simp <;> omega) _)⟩ ?_
          rintro wa1 ⟨g2, b⟩
          try clear c_g1 f_g1 a_g1 d_g1 e_g1
          replace g1 := g1.below b; have c_g1 := g1.cell; have f_g1 := g1.free; have a_g1 := fun o => (g1.alloc o).cell; have d_g1 := fun o o2 => ((g1.alloc o).alloc o2).cell; have e_g1 := fun o => (g1.alloc o).free; replace hxx := hxx.below b; replace B := B.trans (b.mono B.size); clear b
          have c_g2 := g2.cell; have f_g2 := g2.free; have a_g2 := fun o => (g2.alloc o).cell; have d_g2 := fun o o2 => ((g2.alloc o).alloc o2).cell; have e_g2 := fun o => (g2.alloc o).free
          clear m0 m1
          by_cases hty : 0 ≤ o.ty ∧ o.ty < j
          · obtain ⟨q, hq⟩ := Int.eq_ofNat_of_zero_le hty.1
            have hqt : q < m.types.length := by have := HNT.out; omega
            obtain ⟨ad, y, t, iy, m0, ht, hby⟩ := (H.out.t.below B).at_ hqt
            have ht' : ty m.types o = t := by rw [ty, hq]; simp [List.getD_eq_getElem?_getD, ht.out]
            have hby' := hby.out
            have ly := Rd.len hby' Try.underlying74
            obtain ⟨nt, hnt⟩ : ∃ N, N = t.length := ⟨_, rfl⟩
            rw [← hnt] at ly
            have HNt := Lib.hid hnt
            have HTY := Lib.hid (And.intro hty ht'); have HQ := Lib.hid hq
            have ha : decide ((q : Int) < 0) = false := by rw [decide_eq_false_iff_not]; omega
            have hb1 : decide ((j : Int) ≤ (q : Int)) = false := by rw [decide_eq_false_iff_not]; omega
            have hb2 : decide (j ≤ q) = false := by rw [decide_eq_false_iff_not]; omega
            rw [hq] at g2 c_g2 a_g2 d_g2
            clear hby hq hty ht' hqt ht
            by_cases hl : n = nt
            · have hc : ((n : Int) != (nt : Int)) = false := by rw [bne_eq_false_iff_eq]; omega
              have HL := Lib.hid hl
              clear hnt hl
              refine wp_region_calm (by kernel_rfl) (by kernel_rfl) ?_
              try clear c_g1 f_g1 a_g1 d_g1 e_g1
              have c_g1 := fun x : Fut _ => (g1.below x.h).cell
              try clear c_g2 f_g2 a_g2 d_g2 e_g2
              have c_g2 := fun x : Fut _ => (g2.below x.h).cell
              have c_m0 := fun x : Fut _ => cell_later x.h m0
              repeat (go_big_quiet_step (fail))
              refine wpQuiet_nil ?_
              intro _ hw'
              obtain ⟨xq, hw''⟩ := hw'
              subst hw''
              clear c_g1; replace g1 := g1.below xq.h; have c_g1 := g1.cell; have f_g1 := g1.free; have a_g1 := fun o => (g1.alloc o).cell; have d_g1 := fun o o2 => ((g1.alloc o).alloc o2).cell; have e_g1 := fun o => (g1.alloc o).free
              clear c_g2; replace g2 := g2.below xq.h; have c_g2 := g2.cell; have f_g2 := g2.free; have a_g2 := fun o => (g2.alloc o).cell; have d_g2 := fun o o2 => ((g2.alloc o).alloc o2).cell; have e_g2 := fun o => (g2.alloc o).free
              replace hxx := hxx.below xq.h
              clear c_m0; replace m0 := cell_later xq.h m0
              replace hby' := hby'.below xq.h
              replace B := B.trans (xq.h.mono B.size)
              go_wp2
              have HH := Lib.hid (And.intro g1 (And.intro g2 B))
              have HXX := Lib.hid hxx; have HBY := Lib.hid hby'
              have HM0 := Lib.hid m0
              clear g1 g2 c_g1 c_g2 f_g1 f_g2 a_g1 a_g2 d_g1 d_g2 e_g1 e_g2 B hxx hby' m0
              go_loopg [6] n (fun g i wr2 => ∃ p : Nat, p ≤ n ∧ g = n - p ∧ i = .int .i64 p ∧ Hid ((∀ i, i < p → FdOk NO (t.getD i 0) (o.fs.getD i 0)) ∧ Bx wr2 w.heap.size 26 #[tv, ov, sv] ∧ Bx wr2 wr.heap.size 72 #[.int .i64 (q : Int), .slice xA xn xc] ∧ Below w.heap.size w wr2 ∧ Words wr2 (.slice xA xn xc) o.fs ∧ Byts wr2 y t ∧ wr2.cell? ad = some y))
              case atStart => exact ⟨0, by omega, by omega, rfl, Lib.hid ⟨fun i hi => by omega, HH.out.1, HH.out.2.1, HH.out.2.2, HXX.out, HBY.out, HM0.out⟩⟩
              case round =>
                clear HH HXX HBY HM0
                obtain ⟨p, hp, rfl, rfl, hh⟩ := hrel
                have HA2 := Lib.hid hh.out.1
                obtain ⟨g1, g2, B, hxx, hby', m0⟩ := hh.out.2
                have c_g1 := g1.cell; have c_g2 := g2.cell
                clear hh
                by_cases hltp : p < n
                · obtain ⟨bd, kk, ib, m1, hkk⟩ := hby'.at_ (P := Try.prog) Try.underlying74 one_u8 (k := p) (by have := HNt.out; have := HL.out; omega)
                  obtain ⟨cd, v, ic, m2, hv⟩ := hxx.at_ (P := Try.prog) Try.underlying70 one_u64 (k := p) (by have := HN.out; omega)
                  have ek : t.getD p 0 = kk := by simp [List.getD_eq_getElem?_getD, hkk.out]
                  have ev : o.fs.getD p 0 = v := by simp [List.getD_eq_getElem?_getD, hv.out]
                  have EK := Lib.hid ek; have EV := Lib.hid ev
                  clear hkk hv ek ev
                  have hwn : IntKind.u64.wrap ((NO : Nat) : Int) = (NO : Int) := by show (NO : Int) % 18446744073709551616 = _; omega
                  have FT := Lib.hid (fun b hb w => FloatR_any v b hb w)
                  have hcase := fd_split NO kk v
                  have hno : ∀ z, FdOk NO kk v = z → (z → False) → b = false := fun z hz hf => HBAD.out (no_obj ho.out (fun hoo => by
                    have h1 := hoo.2.2 p (by rw [← HN.out]; exact hltp)
                    rw [HTY.out.2, EK.out, EV.out, ← HNO.out, hz] at h1
                    exact hf h1))
                  have HNO2 := Lib.hid hno; clear hno
                  rcases hcase with ⟨z, e2, zf⟩ | ⟨z, e3, zf⟩ | ⟨z, e2, zf⟩ | ⟨z, e3, zf⟩ | ⟨z, e2, e3⟩
                  · have hbf : b = false := HNO2.out _ rfl z
                    have k2 : ((kk.toNat : Int) == 2) = true := by rw [beq_iff_eq]; omega
                    have FT1 := Lib.hid (FT.out false (decide_eq_false zf).symm)
                    clear z e2 zf FT
                    subst hbf
                    go_wp2
                    refine wp_region_calm (by kernel_rfl) (by kernel_rfl) ?_
                    try clear c_g1 f_g1 a_g1 d_g1 e_g1
                    have c_g1 := fun x : Fut _ => (g1.below x.h).cell
                    try clear c_g2 f_g2 a_g2 d_g2 e_g2
                    have c_g2 := fun x : Fut _ => (g2.below x.h).cell
                    have c_m0 := fun x : Fut _ => cell_later x.h m0
                    have c_m1 := fun x : Fut _ => cell_later x.h m1
                    have c_m2 := fun x : Fut _ => cell_later x.h m2
                    repeat (go_big_quiet_step (exact Fut.call (FT1.out _)))
                    refine wpQuiet_nil ?_
                    intro _ hw'
                    obtain ⟨xq, hw''⟩ := hw'
                    subst hw''
                    clear c_g1; replace g1 := g1.below xq.h; have c_g1 := g1.cell; have f_g1 := g1.free; have a_g1 := fun o => (g1.alloc o).cell; have d_g1 := fun o o2 => ((g1.alloc o).alloc o2).cell; have e_g1 := fun o => (g1.alloc o).free
                    clear c_g2; replace g2 := g2.below xq.h; have c_g2 := g2.cell; have f_g2 := g2.free; have a_g2 := fun o => (g2.alloc o).cell; have d_g2 := fun o o2 => ((g2.alloc o).alloc o2).cell; have e_g2 := fun o => (g2.alloc o).free
                    replace hxx := hxx.below xq.h
                    replace hby' := hby'.below xq.h
                    clear c_m0; replace m0 := cell_later xq.h m0
                    clear c_m1; replace m1 := cell_later xq.h m1
                    clear c_m2; replace m2 := cell_later xq.h m2
                    replace B := B.trans (xq.h.mono B.size)
                    go_wp2
                    go_ret
                    exact ⟨rfl, B⟩
                  · have hbf : b = false := HNO2.out _ rfl z
                    have k2 : ((kk.toNat : Int) == 2) = false := by rw [beq_eq_false_iff_ne]; omega
                    have k3 : ((kk.toNat : Int) == 3) = true := by rw [beq_iff_eq]; omega
                    clear z e3 FT
                    subst hbf
                    go_wp2
                    refine wp_region_calm (by kernel_rfl) (by kernel_rfl) ?_
                    try clear c_g1 f_g1 a_g1 d_g1 e_g1
                    have c_g1 := fun x : Fut _ => (g1.below x.h).cell
                    try clear c_g2 f_g2 a_g2 d_g2 e_g2
                    have c_g2 := fun x : Fut _ => (g2.below x.h).cell
                    have c_m0 := fun x : Fut _ => cell_later x.h m0
                    have c_m1 := fun x : Fut _ => cell_later x.h m1
                    have c_m2 := fun x : Fut _ => cell_later x.h m2
                    repeat (go_big_quiet_step (fail))
                    refine wpQuiet_nil ?_
                    intro _ hw'
                    obtain ⟨xq, hw''⟩ := hw'
                    subst hw''
                    clear c_g1; replace g1 := g1.below xq.h; have c_g1 := g1.cell; have f_g1 := g1.free; have a_g1 := fun o => (g1.alloc o).cell; have d_g1 := fun o o2 => ((g1.alloc o).alloc o2).cell; have e_g1 := fun o => (g1.alloc o).free
                    clear c_g2; replace g2 := g2.below xq.h; have c_g2 := g2.cell; have f_g2 := g2.free; have a_g2 := fun o => (g2.alloc o).cell; have d_g2 := fun o o2 => ((g2.alloc o).alloc o2).cell; have e_g2 := fun o => (g2.alloc o).free
                    replace hxx := hxx.below xq.h
                    replace hby' := hby'.below xq.h
                    clear c_m0; replace m0 := cell_later xq.h m0
                    clear c_m1; replace m1 := cell_later xq.h m1
                    clear c_m2; replace m2 := cell_later xq.h m2
                    replace B := B.trans (xq.h.mono B.size)
                    go_wp2
                    go_ret
                    exact ⟨rfl, B⟩
                  · have k2 : ((kk.toNat : Int) == 2) = true := by rw [beq_iff_eq]; omega
                    have k3 : ((kk.toNat : Int) == 3) = false := by rw [beq_eq_false_iff_ne]; omega
                    have FT1 := Lib.hid (FT.out true (decide_eq_true zf).symm)
                    have HZ := Lib.hid z
                    clear z e2 zf FT
                    go_wp2
                    refine wp_region_calm (by kernel_rfl) (by kernel_rfl) ?_
                    try clear c_g1 f_g1 a_g1 d_g1 e_g1
                    have c_g1 := fun x : Fut _ => (g1.below x.h).cell
                    try clear c_g2 f_g2 a_g2 d_g2 e_g2
                    have c_g2 := fun x : Fut _ => (g2.below x.h).cell
                    have c_m0 := fun x : Fut _ => cell_later x.h m0
                    have c_m1 := fun x : Fut _ => cell_later x.h m1
                    have c_m2 := fun x : Fut _ => cell_later x.h m2
                    repeat (go_big_quiet_step (exact Fut.call (FT1.out _)))
                    refine wpQuiet_nil ?_
                    intro _ hw'
                    obtain ⟨xq, hw''⟩ := hw'
                    subst hw''
                    clear c_g1; replace g1 := g1.below xq.h; have c_g1 := g1.cell; have f_g1 := g1.free; have a_g1 := fun o => (g1.alloc o).cell; have d_g1 := fun o o2 => ((g1.alloc o).alloc o2).cell; have e_g1 := fun o => (g1.alloc o).free
                    clear c_g2; replace g2 := g2.below xq.h; have c_g2 := g2.cell; have f_g2 := g2.free; have a_g2 := fun o => (g2.alloc o).cell; have d_g2 := fun o o2 => ((g2.alloc o).alloc o2).cell; have e_g2 := fun o => (g2.alloc o).free
                    replace hxx := hxx.below xq.h
                    replace hby' := hby'.below xq.h
                    clear c_m0; replace m0 := cell_later xq.h m0
                    clear c_m1; replace m1 := cell_later xq.h m1
                    clear c_m2; replace m2 := cell_later xq.h m2
                    replace B := B.trans (xq.h.mono B.size)
                    go_wp2
                    have HH := Lib.hid (And.intro g1 (And.intro g2 (And.intro B (And.intro hxx (And.intro hby' m0)))))
                    clear g1 g2 c_g1 c_g2 f_g1 f_g2 a_g1 a_g2 d_g1 d_g2 e_g1 e_g2 B hxx hby' m0 m1 m2
                    go_roundg (n - (p + 1))
                    case measure => omega
                    case rel =>
                      refine ⟨p + 1, by omega, rfl, by go_num, Lib.hid ⟨fun i hi => ?_, HH.out⟩⟩
                      by_cases hij : i < p
                      · exact HA2.out i hij
                      · obtain rfl : i = p := by omega
                        rw [EK.out, EV.out]; exact HZ.out
                  · have k2 : ((kk.toNat : Int) == 2) = false := by rw [beq_eq_false_iff_ne]; omega
                    have k3 : ((kk.toNat : Int) == 3) = true := by rw [beq_iff_eq]; omega
                    have HZ := Lib.hid z
                    have zf2 : ¬ NO < v.toNat := by omega
                    clear z e3 FT zf
                    go_wp2
                    refine wp_region_calm (by kernel_rfl) (by kernel_rfl) ?_
                    try clear c_g1 f_g1 a_g1 d_g1 e_g1
                    have c_g1 := fun x : Fut _ => (g1.below x.h).cell
                    try clear c_g2 f_g2 a_g2 d_g2 e_g2
                    have c_g2 := fun x : Fut _ => (g2.below x.h).cell
                    have c_m0 := fun x : Fut _ => cell_later x.h m0
                    have c_m1 := fun x : Fut _ => cell_later x.h m1
                    have c_m2 := fun x : Fut _ => cell_later x.h m2
                    repeat (go_big_quiet_step (fail))
                    refine wpQuiet_nil ?_
                    intro _ hw'
                    obtain ⟨xq, hw''⟩ := hw'
                    subst hw''
                    clear c_g1; replace g1 := g1.below xq.h; have c_g1 := g1.cell; have f_g1 := g1.free; have a_g1 := fun o => (g1.alloc o).cell; have d_g1 := fun o o2 => ((g1.alloc o).alloc o2).cell; have e_g1 := fun o => (g1.alloc o).free
                    clear c_g2; replace g2 := g2.below xq.h; have c_g2 := g2.cell; have f_g2 := g2.free; have a_g2 := fun o => (g2.alloc o).cell; have d_g2 := fun o o2 => ((g2.alloc o).alloc o2).cell; have e_g2 := fun o => (g2.alloc o).free
                    replace hxx := hxx.below xq.h
                    replace hby' := hby'.below xq.h
                    clear c_m0; replace m0 := cell_later xq.h m0
                    clear c_m1; replace m1 := cell_later xq.h m1
                    clear c_m2; replace m2 := cell_later xq.h m2
                    replace B := B.trans (xq.h.mono B.size)
                    go_wp2
                    have HH := Lib.hid (And.intro g1 (And.intro g2 (And.intro B (And.intro hxx (And.intro hby' m0)))))
                    clear g1 g2 c_g1 c_g2 f_g1 f_g2 a_g1 a_g2 d_g1 d_g2 e_g1 e_g2 B hxx hby' m0 m1 m2
                    go_roundg (n - (p + 1))
                    case measure => omega
                    case rel =>
                      refine ⟨p + 1, by omega, rfl, by go_num, Lib.hid ⟨fun i hi => ?_, HH.out⟩⟩
                      by_cases hij : i < p
                      · exact HA2.out i hij
                      · obtain rfl : i = p := by omega
                        rw [EK.out, EV.out]; exact HZ.out
                  · have k2 : ((kk.toNat : Int) == 2) = false := by rw [beq_eq_false_iff_ne]; omega
                    have k3 : ((kk.toNat : Int) == 3) = false := by rw [beq_eq_false_iff_ne]; omega
                    have HZ := Lib.hid z
                    clear z e2 e3 FT
                    go_wp2
                    refine wp_region_calm (by kernel_rfl) (by kernel_rfl) ?_
                    try clear c_g1 f_g1 a_g1 d_g1 e_g1
                    have c_g1 := fun x : Fut _ => (g1.below x.h).cell
                    try clear c_g2 f_g2 a_g2 d_g2 e_g2
                    have c_g2 := fun x : Fut _ => (g2.below x.h).cell
                    have c_m0 := fun x : Fut _ => cell_later x.h m0
                    have c_m1 := fun x : Fut _ => cell_later x.h m1
                    have c_m2 := fun x : Fut _ => cell_later x.h m2
                    repeat (go_big_quiet_step (fail))
                    refine wpQuiet_nil ?_
                    intro _ hw'
                    obtain ⟨xq, hw''⟩ := hw'
                    subst hw''
                    clear c_g1; replace g1 := g1.below xq.h; have c_g1 := g1.cell; have f_g1 := g1.free; have a_g1 := fun o => (g1.alloc o).cell; have d_g1 := fun o o2 => ((g1.alloc o).alloc o2).cell; have e_g1 := fun o => (g1.alloc o).free
                    clear c_g2; replace g2 := g2.below xq.h; have c_g2 := g2.cell; have f_g2 := g2.free; have a_g2 := fun o => (g2.alloc o).cell; have d_g2 := fun o o2 => ((g2.alloc o).alloc o2).cell; have e_g2 := fun o => (g2.alloc o).free
                    replace hxx := hxx.below xq.h
                    replace hby' := hby'.below xq.h
                    clear c_m0; replace m0 := cell_later xq.h m0
                    clear c_m1; replace m1 := cell_later xq.h m1
                    clear c_m2; replace m2 := cell_later xq.h m2
                    replace B := B.trans (xq.h.mono B.size)
                    go_wp2
                    have HH := Lib.hid (And.intro g1 (And.intro g2 (And.intro B (And.intro hxx (And.intro hby' m0)))))
                    clear g1 g2 c_g1 c_g2 f_g1 f_g2 a_g1 a_g2 d_g1 d_g2 e_g1 e_g2 B hxx hby' m0 m1 m2
                    go_roundg (n - (p + 1))
                    case measure => omega
                    case rel =>
                      refine ⟨p + 1, by omega, rfl, by go_num, Lib.hid ⟨fun i hi => ?_, HH.out⟩⟩
                      by_cases hij : i < p
                      · exact HA2.out i hij
                      · obtain rfl : i = p := by omega
                        rw [EK.out, EV.out]; exact HZ.out
                · obtain rfl : p = n := by omega
                  have hoo : ObOk m.types m.objs.length o := by
                    have h0 := HTY.out
                    have h1 := HNT.out; have h2 := HN.out; have h3 := HNt.out; have h4 := HL.out
                    refine ⟨by omega, by rw [h0.2]; omega, fun i hi => ?_⟩
                    rw [h0.2, ← HNO.out]
                    exact HA2.out i (by omega)
                  have HOO := Lib.hid hoo; clear hoo
                  go_wp2
                  have HH := Lib.hid (And.intro g1 B)
                  clear g1 g2 c_g1 c_g2 B hxx hby' m0
                  go_roundg (NO - (k + 1))
                  case measure => omega
                  case rel =>
                    refine ⟨k + 1, by omega, rfl, by go_num, Lib.hid ⟨fun i u hi hu => ?_, HH.out⟩⟩
                    by_cases hik : i < k
                    · exact HA.out i u hik hu
                    · obtain rfl : i = k := by omega
                      have := ho.out; rw [hu] at this; injection this with this; subst this
                      exact HOO.out
            · have hc : ((n : Int) != (nt : Int)) = true := by rw [bne_iff_ne]; omega
              have hbf : b = false := HBAD.out (no_obj ho.out (fun hoo => hl (by have h1 := hoo.2.1; have h2 := HTY.out.2; rw [h2, ← HNt.out, ← HN.out] at h1; exact h1)))
              subst hbf
              clear hnt hl
              refine wp_region_calm (by kernel_rfl) (by kernel_rfl) ?_
              try clear c_g1 f_g1 a_g1 d_g1 e_g1
              have c_g1 := fun x : Fut _ => (g1.below x.h).cell
              try clear c_g2 f_g2 a_g2 d_g2 e_g2
              have c_g2 := fun x : Fut _ => (g2.below x.h).cell
              have c_m0 := fun x : Fut _ => cell_later x.h m0
              repeat (go_big_quiet_step (fail))
              refine wpQuiet_nil ?_
              intro _ hw'
              obtain ⟨xq, hw''⟩ := hw'
              subst hw''
              clear c_g1; replace g1 := g1.below xq.h; have c_g1 := g1.cell; have f_g1 := g1.free; have a_g1 := fun o => (g1.alloc o).cell; have d_g1 := fun o o2 => ((g1.alloc o).alloc o2).cell; have e_g1 := fun o => (g1.alloc o).free
              clear c_g2; replace g2 := g2.below xq.h; have c_g2 := g2.cell; have f_g2 := g2.free; have a_g2 := fun o => (g2.alloc o).cell; have d_g2 := fun o o2 => ((g2.alloc o).alloc o2).cell; have e_g2 := fun o => (g2.alloc o).free
              replace hxx := hxx.below xq.h
              clear c_m0; replace m0 := cell_later xq.h m0
              replace hby' := hby'.below xq.h
              replace B := B.trans (xq.h.mono B.size)
              go_wp2
              go_ret
              exact ⟨rfl, B⟩
          · have hbf : b = false := HBAD.out (no_obj ho.out (fun hoo => hty (by have := HNT.out; have := hoo.1; omega)))
            subst hbf
            obtain ⟨ty, fs⟩ := o
            dsimp only at *
            by_cases hneg : ty < 0
            · have ha : decide (ty < 0) = true := decide_eq_true hneg
              clear hty hneg
              refine wp_region_calm (by kernel_rfl) (by kernel_rfl) ?_
              try clear c_g1 f_g1 a_g1 d_g1 e_g1
              have c_g1 := fun x : Fut _ => (g1.below x.h).cell
              try clear c_g2 f_g2 a_g2 d_g2 e_g2
              have c_g2 := fun x : Fut _ => (g2.below x.h).cell
              repeat (go_big_quiet_step (fail))
              refine wpQuiet_nil ?_
              intro _ hw'
              obtain ⟨xq, hw''⟩ := hw'
              subst hw''
              clear c_g1; replace g1 := g1.below xq.h; have c_g1 := g1.cell; have f_g1 := g1.free; have a_g1 := fun o => (g1.alloc o).cell; have d_g1 := fun o o2 => ((g1.alloc o).alloc o2).cell; have e_g1 := fun o => (g1.alloc o).free
              clear c_g2; replace g2 := g2.below xq.h; have c_g2 := g2.cell; have f_g2 := g2.free; have a_g2 := fun o => (g2.alloc o).cell; have d_g2 := fun o o2 => ((g2.alloc o).alloc o2).cell; have e_g2 := fun o => (g2.alloc o).free
              replace B := B.trans (xq.h.mono B.size)
              go_wp2
              go_ret
              exact ⟨rfl, B⟩
            · have ha : decide (ty < 0) = false := decide_eq_false hneg
              have hb1 : decide ((j : Int) ≤ ty) = true := by rw [decide_eq_true_iff]; omega
              clear hty hneg
              refine wp_region_calm (by kernel_rfl) (by kernel_rfl) ?_
              try clear c_g1 f_g1 a_g1 d_g1 e_g1
              have c_g1 := fun x : Fut _ => (g1.below x.h).cell
              try clear c_g2 f_g2 a_g2 d_g2 e_g2
              have c_g2 := fun x : Fut _ => (g2.below x.h).cell
              repeat (go_big_quiet_step (fail))
              refine wpQuiet_nil ?_
              intro _ hw'
              obtain ⟨xq, hw''⟩ := hw'
              subst hw''
              clear c_g1; replace g1 := g1.below xq.h; have c_g1 := g1.cell; have f_g1 := g1.free; have a_g1 := fun o => (g1.alloc o).cell; have d_g1 := fun o o2 => ((g1.alloc o).alloc o2).cell; have e_g1 := fun o => (g1.alloc o).free
              clear c_g2; replace g2 := g2.below xq.h; have c_g2 := g2.cell; have f_g2 := g2.free; have a_g2 := fun o => (g2.alloc o).cell; have d_g2 := fun o o2 => ((g2.alloc o).alloc o2).cell; have e_g2 := fun o => (g2.alloc o).free
              replace B := B.trans (xq.h.mono B.size)
              go_wp2
              go_ret
              exact ⟨rfl, B⟩
        · obtain rfl : k = NO := by omega
          have HO := Lib.hid (fun i t hi => hh.out.1 i t hi); have HB := Lib.hid hh.out.2.2
          clear hh
          go_wp2
          have HG1 := Lib.hid g1
          clear g1 c_g1
          go_loopg [8] NS (fun g i wr => ∃ q : Nat, q ≤ NS ∧ g = NS - q ∧ i = .int .i64 q ∧ Hid ((∀ (i : Nat) o, i < q → m.slots[i]? = some o → SlOk m.objs.length o) ∧ Bx wr w.heap.size 26 #[tv, ov, sv] ∧ Below w.heap.size w wr))
          case atStart => exact ⟨0, by omega, by omega, rfl, Lib.hid ⟨fun i t hi => by omega, HG1.out, HB.out⟩⟩
          case round =>
            clear HG1 HB
            obtain ⟨q, hq, rfl, rfl, hh⟩ := hrel
            have g1 := hh.out.2.1
            have c_g1 := g1.cell
            have B := hh.out.2.2; have HA := Lib.hid hh.out.1
            by_cases hltq : q < NS
            · obtain ⟨sb, sq, s, ix, m0, m1, m2, hs⟩ := (H.out.s.below B).at_ (P := Try.prog) Try.underlying24 size_slot (k := q) (by have := HNS.out; omega)
              have hcase := sl_split k s
              have hsn : ¬ SlOk k s → b = false := fun hn => HBAD.out (no_slot hs.out (by rw [← HNO.out]; exact hn))
              have HSN := Lib.hid hsn; clear hsn hh
              have HSS := Lib.hid hs.out; clear hs
              obtain ⟨gn, us, sa⟩ := s
              dsimp only at m0 m1 m2 hcase
              go_upto_region 22 with (fail)
              refine wp_gen (fun Wv => Bx Wv (wr.heap.size) (67) (#[.int .i64 gn, .bool us, .int .i64 sa]) ∧ Below wr.heap.size wr Wv) ⟨((Bx.at_ (by simp))), ((Below.refl _ wr).alloc (by simp <;> omega) _)⟩ ?_
              rintro wa1 ⟨g2, b⟩
              try clear c_g1 f_g1 a_g1 d_g1 e_g1
              replace g1 := g1.below b; have c_g1 := g1.cell; have f_g1 := g1.free; have a_g1 := fun o => (g1.alloc o).cell; have d_g1 := fun o o2 => ((g1.alloc o).alloc o2).cell; have e_g1 := fun o => (g1.alloc o).free; replace B := B.trans (b.mono B.size); clear b
              have c_g2 := g2.cell; have f_g2 := g2.free; have a_g2 := fun o => (g2.alloc o).cell; have d_g2 := fun o o2 => ((g2.alloc o).alloc o2).cell; have e_g2 := fun o => (g2.alloc o).free
              clear m0 m1 m2
              rcases hcase with ⟨z, h1⟩ | ⟨z, h1, h2, h3⟩
              · have hbf : b = false := HSN.out z
                subst hbf
                clear z
                rcases h1 with h1 | ⟨h1, h2⟩ | ⟨h1, h2, ⟨rfl, h3⟩ | ⟨rfl, h3 | ⟨h3, h4 | ⟨h4, h5⟩⟩⟩⟩
                all_goals
                  go_wp2
                  go_ret
                  exact ⟨rfl, B⟩
              · have HZ := Lib.hid z; clear z
                have HH := Lib.hid (And.intro g1 B)
                rcases h3 with ⟨rfl, h3⟩ | ⟨rfl, h3, h4, h5⟩
                all_goals
                  go_wp2
                  clear g1 g2 c_g1 c_g2 f_g1 f_g2 a_g1 a_g2 d_g1 d_g2 e_g1 e_g2 B
                  go_roundg (NS - (q + 1))
                  case measure => omega
                  case rel =>
                    refine ⟨q + 1, by omega, rfl, by go_num, Lib.hid ⟨fun i u hi hu => ?_, ?_⟩⟩
                    · by_cases hik : i < q
                      · exact HA.out i u hik hu
                      · obtain rfl : i = q := by omega
                        have := HSS.out; rw [hu] at this; injection this with this; subst this
                        rw [← HNO.out]; exact HZ.out
                    · exact HH.out
            · obtain rfl : q = NS := by omega
              have hfin : b = decide (q = 16) := by
                rw [HB0.out]
                congr 1
                rw [eq_iff_iff]
                refine ⟨fun hm => by rw [HNS.out]; exact hm.1, fun h16 => ⟨by rw [← HNS.out]; exact h16, fun t ht => ?_, fun o ho => ?_, fun s hs => ?_⟩⟩
                · obtain ⟨i, hi, hit⟩ := List.getElem_of_mem ht
                  exact HT.out i t (by rw [HNT.out]; exact hi) (by rw [List.getElem?_eq_getElem hi, hit])
                · obtain ⟨i, hi, hit⟩ := List.getElem_of_mem ho
                  exact HO.out i o (by rw [HNO.out]; exact hi) (by rw [List.getElem?_eq_getElem hi, hit])
                · obtain ⟨i, hi, hit⟩ := List.getElem_of_mem hs
                  exact HA.out i s (by rw [HNS.out]; exact hi) (by rw [List.getElem?_eq_getElem hi, hit])
              have HF := Lib.hid hfin; clear hfin
              go_wp2
              go_ret
              refine ⟨ret_bool ?_, B⟩
              rw [HF.out, Bool.eq_iff_iff, beq_iff_eq, decide_eq_true_iff]; omega
end Go.Proofs.Ytgjpohhafmkhcaa
namespace Go.Proofs.Ytgjpohhafmkhcaa
open Go.RowKit L02 L13 L18 L20
set_option maxRecDepth 100000 in
set_option maxHeartbeats 4000000 in
theorem CheckR20_any (tv ov sv : Value) (m : Mo) (r : Int) (hr : r = chk m) (w : World) (h : Mod w tv ov sv m) :
    Calls Try.prog 24 #[.agg #[tv, ov, sv]] w fun e w' => e = .returned (.int .i64 r) ∧ Below w.heap.size w w' := by
  have B : Below w.heap.size w w := Below.refl _ _
  have lt := h.t.len; have lo := h.o.len; have ls := h.s.len
  have lt' := h.t.len_le; have lo' := h.o.len_le
  have hbig : 8 < m.types.length ∨ 960 < m.objs.length → r = 4 := fun hm => by rw [hr, chk_many hm]
  have hbad : ¬ (8 < m.types.length ∨ 960 < m.objs.length) → ¬ MoOk m → r = 8 := fun h1 h2 => by rw [hr, chk_bad h1 h2]
  have hgood : ¬ (8 < m.types.length ∨ 960 < m.objs.length) → MoOk m → r = 0 := fun h1 h2 => by rw [hr, chk_zero h1 h2]
  obtain ⟨z, hz⟩ : ∃ z, z = decide (MoOk m) := ⟨_, rfl⟩
  have VT := Lib.hid (fun w h => validR_any tv ov sv m z hz w h)
  obtain ⟨NT, hNT⟩ : ∃ N, N = m.types.length := ⟨_, rfl⟩
  obtain ⟨NO, hNO⟩ : ∃ N, N = m.objs.length := ⟨_, rfl⟩
  rw [← hNT] at lt lt' hbig hbad hgood; rw [← hNO] at lo lo' hbig hbad hgood
  clear hr hNT hNO
  by_cases h1 : 8 < NT
  · have hr4 := hbig (.inl h1)
    clear hbig hbad hgood h
    subst hr4
    go_enter Try.func24, Try.ntmps24
    go_wp2
    go_ret
    exact ⟨rfl, B.alloc B.size _⟩
  by_cases h2 : 960 < NO
  · have hr4 := hbig (.inr h2)
    clear hbig hbad hgood h
    subst hr4
    go_enter Try.func24, Try.ntmps24
    go_wp2
    go_ret
    exact ⟨rfl, B.alloc B.size _⟩
  have hnm : ¬ (8 < NT ∨ 960 < NO) := by omega
  have hrr : r = if z = true then 0 else 8 := by
    by_cases hm : MoOk m
    · rw [hgood hnm hm, hz, decide_eq_true hm]; rfl
    · rw [hbad hnm hm, hz, decide_eq_false hm]; rfl
  have H := Lib.hid h
  clear hbig hbad hgood hnm hz h
  cases z
  · obtain rfl : r = 8 := hrr
    go_enter Try.func24, Try.ntmps24
    go_upto_region 1 with (fail)
    refine wp_gen (fun Wv => Bx Wv (w.heap.size) (26) (#[tv, ov, sv]) ∧ Below w.heap.size w Wv) ⟨((Bx.at_ (by simp))), ((Below.refl _ w).alloc (by simp <;> omega) _)⟩ ?_
    rintro wa1 ⟨g1, b⟩
    replace B := B.trans (b.mono B.size); clear b
    have c_g1 := g1.cell; have f_g1 := g1.free; have a_g1 := fun o => (g1.alloc o).cell; have d_g1 := fun o o2 => ((g1.alloc o).alloc o2).cell; have e_g1 := fun o => (g1.alloc o).free
    go_wp2_with fail
    refine (VT.out _ (H.out.below B)).mono ?_
    rintro e w2 ⟨rfl, b2⟩
    replace B := B.trans (b2.mono B.size)
    clear b2
    go_wp2
    go_ret
    exact ⟨rfl, B⟩
  · obtain rfl : r = 0 := hrr
    go_enter Try.func24, Try.ntmps24
    go_upto_region 1 with (fail)
    refine wp_gen (fun Wv => Bx Wv (w.heap.size) (26) (#[tv, ov, sv]) ∧ Below w.heap.size w Wv) ⟨((Bx.at_ (by simp))), ((Below.refl _ w).alloc (by simp <;> omega) _)⟩ ?_
    rintro wa1 ⟨g1, b⟩
    replace B := B.trans (b.mono B.size); clear b
    have c_g1 := g1.cell; have f_g1 := g1.free; have a_g1 := fun o => (g1.alloc o).cell; have d_g1 := fun o o2 => ((g1.alloc o).alloc o2).cell; have e_g1 := fun o => (g1.alloc o).free
    go_wp2_with fail
    refine (VT.out _ (H.out.below B)).mono ?_
    rintro e w2 ⟨rfl, b2⟩
    replace B := B.trans (b2.mono B.size)
    clear b2
    go_wp2
    go_ret
    exact ⟨rfl, B⟩
end Go.Proofs.Ytgjpohhafmkhcaa
namespace Go.Proofs.Ytgjpohhafmkhcaa
open Go Go.RowKit
section
variable {P : Program} {ops : Array Oper} {md : Region.Mode} {C : Array Bool → World → Prop}
def uponF (P : Program) (Post : World → Prop) (v : Value) : Result Next → Prop
  | .ok (.value u) w' => u = v ∧ Post w'
  | .ok .skip w' => v = undef ∧ Post w'
  | .ok (.enter f args) w' => Calls P f args w' (fun e w'' => e = .returned v ∧ Post w'')
  | _ => False
def YieldsF (P : Program) (md : Region.Mode) (ops : Array Oper) (C : Array Bool → World → Prop) (i : Nat) (o : Oper) (v : Value) (a : Act) : Prop :=
  (Region.wanted o (yielded ops a.tmps) = true ∧ ∀ listed w, i ∈ Region.ready md ops listed → C listed w → uponF P (C (listed.setIfInBounds i true)) v ((execOp a.eval o).run P w)) ∨
  (Region.wanted o (yielded ops a.tmps) = false ∧ v = undef ∧ ∀ listed w, i ∈ Region.ready md ops listed → C listed w → C (listed.setIfInBounds i true) w)
def qOpF (P : Program) (md : Region.Mode) (ops : Array Oper) (C : Array Bool → World → Prop) (i : Nat) (K : Act → Prop) (a : Act) : Prop :=
  match ops[i]? with
  | none => False
  | some o => ∃ v, YieldsF P md ops C i o v a ∧ K (a.put o.dst v)
theorem qOpF_mono {i : Nat} {a : Act} {K K' : Act → Prop} (h : ∀ a, K a → K' a) (hh : qOpF P md ops C i K a) : qOpF P md ops C i K' a := by
  unfold qOpF at *
  split
  · rename_i ho; simp only [ho] at hh
  · rename_i o ho
    simp only [ho] at hh
    obtain ⟨v, h1, h2⟩ := hh
    exact ⟨v, h1, h _ h2⟩
def wpAnyF (P : Program) (md : Region.Mode) (ops : Array Oper) (C : Array Bool → World → Prop) (Q : Array Bool → Act → Prop) : Nat → Array Bool → Act → Prop
  | 0, listed, a => Region.ready md ops listed = [] ∧ Q listed a
  | fuel + 1, listed, a =>
    (Region.ready md ops listed = [] → Q listed a) ∧
    ∀ i ∈ Region.ready md ops listed, qOpF P md ops C i (wpAnyF P md ops C Q fuel (listed.setIfInBounds i true)) a
theorem wpOp_of_qOpF {i : Nat} {a : Act} {listed : Array Bool} {K : Act → Prop} {K' : Act → World → Prop} {Q' : Exit → Act → World → Prop} {w : World} (hl : i ∈ Region.ready md ops listed) (hC : C listed w)
    (h : ∀ a w', C (listed.setIfInBounds i true) w' → K a → K' a w') (hh : qOpF P md ops C i K a) : wpOp P ops Q' i K' a w := by
  unfold qOpF at hh
  unfold wpOp
  split
  · rename_i ho; simp only [ho] at hh
  · rename_i o ho
    simp only [ho] at hh
    obtain ⟨v, hy, h2⟩ := hh
    rcases hy with ⟨hw, hv⟩ | ⟨hw, rfl, hv⟩
    · rw [if_pos hw]
      left
      have h3 := hv listed w hl hC
      unfold Oper.wp
      generalize (execOp a.eval o).run P w = r at *
      cases r with
      | ok n w' =>
        cases n <;> simp only [uponF] at h3 <;> simp only [Oper.upon]
        case value u => obtain ⟨e1, e2⟩ := h3; rw [e1]; exact h _ _ e2 h2
        case skip => obtain ⟨e1, e2⟩ := h3; rw [← e1]; exact h _ _ e2 h2
        case enter f args => exact h3.mono fun e w'' ⟨he, hw''⟩ => by subst he; exact h _ _ hw'' h2
      | halt x w' => simp only [uponF] at h3
    · rw [if_neg (by rw [hw]; exact Bool.false_ne_true)]
      exact h _ _ (hv listed w hl hC) h2
theorem wpAny_of_F {Q : Array Bool → Act → Prop} {Q' : Exit → Act → World → Prop} (hQ : ∀ listed a w, C listed w → Q listed a → Q' .normal a w) : ∀ (fuel : Nat) (listed : Array Bool) (a : Act) (w : World), C listed w →
    wpAnyF P md ops C Q fuel listed a → wpAny P md ops Q' fuel listed a w
  | 0, _, _, _, hw, h => ⟨h.1, hQ _ _ _ hw h.2⟩
  | fuel + 1, listed, _, _, hw, h => ⟨fun h0 => hQ _ _ _ hw (h.1 h0), fun i hi => wpOp_of_qOpF hi hw (fun a' w' hw' => wpAny_of_F hQ fuel _ a' w' hw') (h.2 i hi)⟩
theorem YieldsF.of_same {i : Nat} {o : Oper} {v : Value} {a a' : Act} (hy : YieldsF P md ops C i o v a) (he : execOp a'.eval o = execOp a.eval o)
    (hw : Region.wanted o (yielded ops a'.tmps) = Region.wanted o (yielded ops a.tmps)) : YieldsF P md ops C i o v a' := by
  unfold YieldsF at *
  rw [he, hw]
  exact hy
theorem qOpF_put {i j : Nat} {oi oj : Oper} {v : Value} (hj : ops[j]? = some oj) (hap : oi.apart ops oj = true)
    (hsi : ∀ cs b, oi.op ≠ .select cs b) (hsj : ∀ cs b, oj.op ≠ .select cs b) {K : Act → Prop} {a : Act}
    (hy : YieldsF P md ops C i oi v a) (h : qOpF P md ops C j K (a.put oi.dst v)) :
    qOpF P md ops C j (fun a' => YieldsF P md ops C i oi v a' ∧ K (a'.put oi.dst v)) a := by
  obtain ⟨h1, h2, h3⟩ := Oper.apart_spec hap
  unfold qOpF at *
  simp only [hj] at *
  obtain ⟨u, hu, hn⟩ := h
  refine ⟨u, hu.of_same ?_ ?_, hy.of_same ?_ ?_, ?_⟩
  · exact (execOp_put oj hsj a oi.dst v h1).symm
  · exact (wanted_put oj a oi.dst v h1).symm
  · exact execOp_put oi hsi a oj.dst u h3
  · exact wanted_put oi a oj.dst u h3
  · rw [← Act.put_comm a v u h2]; exact hn
theorem wpAnyF_first {Q : Array Bool → Act → Prop} {i : Nat} {oi : Oper} {v : Value} (hi : ops[i]? = some oi) (hsel : ∀ (j : Nat) (o : Oper) cs b, ops[j]? = some o → o.op ≠ .select cs b) :
    ∀ (fuel : Nat) (listed : Array Bool) (a : Act),
      (∀ j oj, ops[j]? = some oj → j ≠ i → listed.getD j true = false → (∀ e ∈ oj.after, Region.binds md e = true → e.on ≠ i) → oi.apart ops oj = true) →
      i ∈ Region.ready md ops listed → YieldsF P md ops C i oi v a →
      wpAnyF P md ops C Q fuel (listed.setIfInBounds i true) (a.put oi.dst v) → wpAnyF P md ops C Q (fuel + 1) listed a := by
  intro fuel
  induction fuel with
  | zero =>
    intro listed a _ hr hy H
    refine ⟨fun h => (by rw [h] at hr; cases hr), fun j hj => ?_⟩
    by_cases hji : j = i
    · subst hji
      unfold qOpF; simp only [hi]
      exact ⟨v, hy, H⟩
    · have := ready_mono hj hji
      rw [H.1] at this
      cases this
  | succ fuel ih =>
    intro listed a hfree hr hy H
    refine ⟨fun h => (by rw [h] at hr; cases hr), fun j hj => ?_⟩
    by_cases hji : j = i
    · subst hji
      unfold qOpF; simp only [hi]
      exact ⟨v, hy, H⟩
    · have h1 := H.2 j (ready_mono hj hji)
      obtain ⟨hjun, oj, hoj, hall⟩ := mem_ready.1 hj
      have hnot : ∀ e ∈ oj.after, Region.binds md e = true → e.on ≠ i := fun e he hb heq => by
        have h1 := hall e he hb
        have h0 := (mem_ready.1 hr).1
        rw [heq] at h1
        rcases Nat.lt_or_ge i listed.size with h' | h'
        · simp [h'] at h0 h1; rw [h0] at h1; cases h1
        · simp [Array.getElem?_eq_none h'] at h1
      have h2 := qOpF_put hoj (hfree j oj hoj hji hjun hnot) (fun cs b => hsel i oi cs b hi) (fun cs b => hsel j oj cs b hoj) hy h1
      have hfree' : ∀ k ok, ops[k]? = some ok → k ≠ i → (listed.setIfInBounds j true).getD k true = false →
          (∀ e ∈ ok.after, Region.binds md e = true → e.on ≠ i) → oi.apart ops ok = true := fun k ok hk hki hun hno => by
        refine hfree k ok hk hki ?_ hno
        by_cases hjk : j = k
        · subst hjk; exact hjun
        · rw [getD_set_ne true hjk] at hun; exact hun
      refine qOpF_mono (fun a' h3 => ih (listed.setIfInBounds j true) a' hfree' (ready_mono hr (Ne.symm hji)) h3.1 ?_) h2
      rw [Array.setIfInBounds_comm _ _ hji]
      exact h3.2
/-- the walk in the order of the text, number k first -/
def wpF (P : Program) (md : Region.Mode) (ops : Array Oper) (C : Array Bool → World → Prop) (Q : Act → Prop) : List Oper → Nat → Act → Prop
  | [], _, a => Q a
  | o :: rest, k, a => ∃ v, YieldsF P md ops C k o v a ∧ wpF P md ops C Q rest (k + 1) (a.put o.dst v)
def setAll : Nat → Nat → Array Bool → Array Bool
  | 0, _, l => l
  | n + 1, k, l => setAll n (k + 1) (l.setIfInBounds k true)
theorem wpAnyF_lex {Q : Array Bool → Act → Prop} (hs : Region.noSelect ops = true) : ∀ (l : List Oper) (k : Nat) (listed : Array Bool) (a : Act), (∀ j, l[j]? = ops[k + j]?) →
    Region.lexFrom md ops l.length k listed = true → wpF P md ops C (Q (setAll l.length k listed)) l k a → wpAnyF P md ops C Q l.length listed a
  | [], _, _, _, _, hB, h => ⟨by simpa [Region.lexFrom] using hB, h⟩
  | o :: l, k, listed, a, hl, hB, h => by
    have h0 : ops[k]? = some o := by simpa using (hl 0).symm
    simp only [List.length_cons, Region.lexFrom, Bool.and_eq_true] at hB
    obtain ⟨⟨hr, hf⟩, hB'⟩ := hB
    obtain ⟨v, hy, hK⟩ := h
    exact wpAnyF_first h0 (Region.noSelect_spec hs) l.length listed a (Region.free_spec h0 hf) (by simpa using hr) hy
      (wpAnyF_lex hs l (k + 1) _ _ (fun j => by have := hl (j + 1); simpa [Nat.add_assoc, Nat.add_comm 1 j] using this) hB' hK)
theorem wp_region_F {id : Nat} {Q : Exit → Act → World → Prop} {a : Act} {w : World} {l : List Oper} (C : Array Bool → World → Prop) (hm : P.follows .mixedOrders = true) (hB : Region.lexB .any l.toArray = true)
    (hC : C (Array.replicate l.length false) { w with drawn := w.drawn + 1 })
    (h : wpF P .any l.toArray C (fun a' => ∀ w', C (setAll l.length 0 (Array.replicate l.length false)) w' → Q .normal a' w') l 0 a) : (Code.region id l.toArray true).wp P Q a w := by
  simp only [Region.lexB, Bool.and_eq_true] at hB
  refine wp_region_any hm (wpAny_of_F (C := C) (Q := fun listed a' => ∀ w', C listed w' → Q .normal a' w') (fun _ _ w' hw' h => h w' hw') _ _ _ _ (by simpa using hC) ?_)
  have := wpAnyF_lex (C := C) (md := .any) (Q := fun listed a' => ∀ w', C listed w' → Q .normal a' w') hB.1 l 0 (Array.replicate l.length false) a (by simp) (by simpa using hB.2) h
  simpa using this
end
/-! two flagged operations, numbers j1, j2 (a number that no operation bears: none) -/
/-- the operations that yield a value without entering a function -/
def isV : Op → Bool
  | .move _ | .assign _ | .pick .. | .build .. | .load .. | .binOp .. | .unOp .. | .convert .. | .slice .. | .fieldAddr .. | .field .. | .indexAddr .. | .index .. | .extract .. | .sliceToArrayPointer .. => true
  | _ => false
theorem run_v {P : Program} {s : Sem Value} {w w' : World} {n : Next} (h : (do pure (Next.value (← s)) : Sem Next).run P w = .ok n w') : ∃ u, n = .value u := by
  rw [Sem.run_bind] at h
  cases hs : s.run P w with
  | ok u w1 => rw [hs] at h; simp [Result.andThen] at h; exact ⟨u, h.1.symm⟩
  | halt x w1 => rw [hs] at h; simp [Result.andThen] at h
theorem isV_value {P : Program} {o : Oper} {ev : Operand → Value} {w w' : World} {n : Next} (hV : isV o.op = true) (h : (execOp ev o).run P w = .ok n w') : ∃ u, n = .value u := by
  unfold execOp at h
  cases ho : o.op <;> rw [ho] at h hV <;> simp only [isV, Bool.false_eq_true] at hV <;> dsimp only at h
  case move x => simp at h; exact ⟨_, h.1.symm⟩
  case assign x => simp at h; exact ⟨_, h.1.symm⟩
  case pick c x y =>
    rw [Sem.run_bind] at h
    cases hs : (asBool (ev c)).run P w with
    | ok u w1 => rw [hs] at h; simp [Result.andThen] at h; exact ⟨_, h.1.symm⟩
    | halt x w1 => rw [hs] at h; simp [Result.andThen] at h
  all_goals exact run_v h
structure FX (F : Bool → Bool → World → Prop) where
  W : World
  h : ∃ b1 b2, F b1 b2 W
section
variable {P : Program} {ops : Array Oper} {rest : List Oper} {o : Oper} {a : Act} {Q : Act → Prop} {F : Bool → Bool → World → Prop} {j1 j2 k : Nat} {md : Region.Mode}
theorem ready_after {i j : Nat} {oi : Oper} {listed : Array Bool} (hi : ops[i]? = some oi) (hd : (oi.after.any fun e => Region.binds md e && e.on == j) = true) (hr : i ∈ Region.ready md ops listed) : listed.getD j false = true := by
  obtain ⟨_, o', ho', hall⟩ := mem_ready.1 hr
  have : o' = oi := Option.some.inj (ho'.symm.trans hi)
  subst this
  obtain ⟨e, he, hb⟩ := Array.any_eq_true'.1 hd
  simp only [Bool.and_eq_true, beq_iff_eq] at hb
  rw [← hb.2]; exact hall e he hb.1
structure FX1 (F : Bool → Bool → World → Prop) where
  W : World
  h : ∃ b2, F true b2 W
theorem getD_on {listed : Array Bool} {i : Nat} (h : listed.getD i true = false) : listed.getD i false = false ∧ (listed.setIfInBounds i true).getD i false = true := by
  rcases Nat.lt_or_ge i listed.size with h' | h'
  · simp [h'] at h ⊢; exact h
  · simp [Array.getElem?_eq_none h'] at h
end
/-- the flagged operation is a call that makes just one block -/
def FNew (w0 : World) (t : TypeId) (cs : Array Value) : Bool → Bool → World → Prop := fun b1 _ W => Below w0.heap.size w0 W ∧ (b1 = false → W.heap.size = w0.heap.size) ∧ (b1 = true → Bx W w0.heap.size t cs)
theorem FNew.start (w0 : World) (t : TypeId) (cs : Array Value) : FNew w0 t cs false false w0.drew := ⟨(Below.refl _ _).drew, fun _ => rfl, (fun h => by cases h)⟩
theorem FNew.below {w0 : World} {t : TypeId} {cs : Array Value} (x : FX (FNew w0 t cs)) : Below w0.heap.size w0 x.W := by obtain ⟨W, b1, b2, h⟩ := x; exact h.1
instance (w0 : World) (t : TypeId) (cs : Array Value) : Nonempty (FX (FNew w0 t cs)) := ⟨⟨w0.drew, false, false, FNew.start w0 t cs⟩⟩
instance (w0 : World) (t : TypeId) (cs : Array Value) : Nonempty (FX1 (FNew w0 t cs)) := ⟨⟨w0.alloc (.cells cs t), false, (Below.refl _ _).alloc (Nat.le_refl _) _, (fun h => by cases h), fun _ => Bx.new _ _ _⟩⟩
theorem FNew.call {P : Program} {f : FuncId} {av : Array Value} {w0 : World} {t : TypeId} {cs : Array Value} {n c : Nat}
    (h : ∀ W, Calls P f av W (fun e w' => e = .returned (.slice (some ⟨W.heap.size, 0, none⟩) n c) ∧ Bx w' W.heap.size t cs ∧ Below W.heap.size W w')) (b2 : Bool) (W : World) (hW : FNew w0 t cs false b2 W) :
    Calls P f av W (fun e W' => e = .returned (.slice (some ⟨w0.heap.size, 0, none⟩) n c) ∧ FNew w0 t cs true b2 W') := by
  have hz := hW.2.1 rfl
  refine (h W).mono fun e w' ⟨h1, h2, h3⟩ => ?_
  rw [hz] at h1 h2
  exact ⟨h1, hW.1.trans (h3.mono (by rw [hz]; exact Nat.le_refl _)), (fun h => by cases h), fun _ => h2⟩
end Go.Proofs.Ytgjpohhafmkhcaa
namespace Go.Proofs.Ytgjpohhafmkhcaa
open Go Go.RowKit
def CN (F : (Nat → Bool) → World → Prop) : Array Bool → World → Prop := fun listed W => F (fun j => listed.getD j false) W
def Dep (F : (Nat → Bool) → World → Prop) (js : List Nat) : Prop := ∀ f g W, (∀ j ∈ js, f j = g j) → F f W → F g W
structure FXN (F : (Nat → Bool) → World → Prop) where
  W : World
  h : ∃ f, F f W
section
variable {P : Program} {ops : Array Oper} {rest : List Oper} {o : Oper} {a : Act} {Q : Act → Prop} {F : (Nat → Bool) → World → Prop} {js : List Nat} {k : Nat} {md : Region.Mode}
theorem CN.skip (hD : Dep F js) (hk : k ∉ js) {listed : Array Bool} {W : World} (hW : CN F listed W) : CN F (listed.setIfInBounds k true) W := by
  refine hD _ _ _ (fun j hj => ?_) hW
  have hne : k ≠ j := fun e => hk (e ▸ hj)
  rw [getD_set_ne false hne]
theorem wpN_read (hD : Dep F js) (hV : isV o.op = true) (hk : k ∉ js) (h : wpQuiet P ops (fun W => ∃ x : FXN F, W = x.W) (fun a' => wpF P md ops (CN F) Q rest (k + 1) a') [o] a) : wpF P md ops (CN F) Q (o :: rest) k a := by
  unfold wpQuiet at h
  split at h
  · rename_i hw
    obtain ⟨v, h1, h2⟩ := h
    refine ⟨v, .inl ⟨hw, fun listed W hl hW => ?_⟩, h2⟩
    have h3 := h1 W ⟨⟨W, _, hW⟩, rfl⟩
    unfold Oper.quietAt at h3
    cases hr : (execOp a.eval o).run P W with
    | ok n w' =>
      obtain ⟨u, rfl⟩ := isV_value hV hr
      rw [hr] at h3
      simp only [Oper.quietUpon] at h3
      simp only [uponF]
      obtain ⟨e1, e2⟩ := h3
      subst e1
      exact ⟨e2, hW.skip hD hk⟩
    | halt x w' => rw [hr] at h3; simp only [Oper.quietUpon] at h3
  · rename_i hw
    exact ⟨undef, .inr ⟨by simpa using hw, rfl, fun listed W hl hW => hW.skip hD hk⟩, h⟩
end
theorem wp_region_N {P : Program} {id : Nat} {Q : Exit → Act → World → Prop} {a : Act} {w : World} {l : List Oper} (F : (Nat → Bool) → World → Prop) (js : List Nat) (hD : Dep F js) (hm : P.follows .mixedOrders = true) (hB : Region.lexB .any l.toArray = true)
    (hf : (js.all fun j => (setAll l.length 0 (Array.replicate l.length false)).getD j false) = true)
    (hC : F (fun _ => false) w.drew)
    (h : wpF P .any l.toArray (CN F) (fun a' => ∀ w', F (fun _ => true) w' → Q .normal a' w') l 0 a) : (Code.region id l.toArray true).wp P Q a w := by
  have e : ∀ j, (Array.replicate l.length false).getD j false = false := fun j => getD_replicate_false _ _
  refine wp_region_F (CN F) hm hB ?_ ?_
  · exact hD _ _ _ (fun j _ => (e j).symm) hC
  · have e2 : ∀ w', CN F (setAll l.length 0 (Array.replicate l.length false)) w' → F (fun _ => true) w' := fun w' h' => hD _ _ _ (fun j hj => by simpa using List.all_eq_true.1 hf j hj) h'
    have mono : ∀ (r : List Oper) (k : Nat) (a' : Act), wpF P .any l.toArray (CN F) (fun a' => ∀ w', F (fun _ => true) w' → Q .normal a' w') r k a' → wpF P .any l.toArray (CN F) (fun a' => ∀ w', CN F (setAll l.length 0 (Array.replicate l.length false)) w' → Q .normal a' w') r k a' := by
      intro r
      induction r with
      | nil => intro k a' h0 w' h'; exact h0 w' (e2 w' h')
      | cons o r ih => intro k a' h0; obtain ⟨v, h1, h2⟩ := h0; exact ⟨v, h1, ih _ _ h2⟩
    exact mono l 0 a h
end Go.Proofs.Ytgjpohhafmkhcaa
namespace Go.Proofs.Ytgjpohhafmkhcaa
open Go Go.RowKit
/-- a block, and the store number k that makes 'new' of 'old' -/
structure Bk where
  g : Nat
  t : TypeId
  k : Nat
  old : Array Value
  new : Array Value
def FBx (w0 : World) (B : Nat) (L : List Bk) : (Nat → Bool) → World → Prop := fun f W => Below B w0 W ∧ ∀ p ∈ L, Bx W p.g p.t (if f p.k = true then p.new else p.old)
section
variable {w0 : World} {B : Nat} {L : List Bk} {js : List Nat}
theorem FBx.dep (h : ∀ p ∈ L, p.k ∈ js) : Dep (FBx w0 B L) js := by
  rintro f g W hfg ⟨h1, h2⟩
  exact ⟨h1, fun p hp => by rw [← hfg p.k (h p hp)]; exact h2 p hp⟩
theorem FBx.start {W : World} (h1 : Below B w0 W) (h2 : ∀ p ∈ L, Bx W p.g p.t p.old) : FBx w0 B L (fun _ => false) W.drew := ⟨h1.drew, fun p hp => by rw [if_neg (by simp)]; exact h2 p hp⟩
theorem FBx.done {W : World} (h : FBx w0 B L (fun _ => true) W) : Below B w0 W ∧ ∀ p ∈ L, Bx W p.g p.t p.new := ⟨h.1, fun p hp => by have := h.2 p hp; rwa [if_pos rfl] at this⟩
theorem FBx.cell (p : Bk) (hp : p ∈ L) (he : p.old = p.new) (x : FXN (FBx w0 B L)) (i : Nat) : x.W.cell? ⟨p.g, i, none⟩ = p.old[i]? := by
  obtain ⟨W, f, h⟩ := x
  have := h.2 p hp
  rw [← he] at this
  split at this <;> exact this.cell i
theorem FBx.base (x : FXN (FBx w0 B L)) : Below B w0 x.W := by obtain ⟨W, f, h⟩ := x; exact h.1
variable {P : Program} {k : Nat}
end
section
variable {P : Program} {ops : Array Oper} {rest : List Oper} {o : Oper} {a : Act} {Q : Act → Prop} {F : (Nat → Bool) → World → Prop} {js : List Nat} {k : Nat} {md : Region.Mode}
end
theorem store_int {P : Program} {ty : TypeId} (hi : (P.info? ty).map (·.size) = some 1) (W : World) (ad : Addr) (u0 : Value) (k : IntKind) (n : Int) (hc : W.cell? ad = some u0) (hf : W.frozen? ad = false) : (Instr.storeAt ty (.pointer (some ad)) (.int k n)).run P W = .ok () (W.setCell ad (.int k n)) := by
  obtain ⟨i, hi', e⟩ := Option.map_eq_some_iff.1 hi
  simp [go_sem, hc, hf, sizeOf, typeInfo, hi', e]
end Go.Proofs.Ytgjpohhafmkhcaa
namespace Go.Proofs.Ytgjpohhafmkhcaa
open Go Go.RowKit
section
variable {P : Program} {ops : Array Oper} {rest : List Oper} {o : Oper} {a : Act} {Q : Act → Prop} {F : (Nat → Bool) → World → Prop} {js : List Nat} {k : Nat} {md : Region.Mode}
/-- an operation that changes the world, where others that it waits for are done -/
theorem wpN_step (hD : Dep F js) (hi : ops[k]? = some o) (hw : Region.wanted o (yielded ops a.tmps) = true) {v : Value} (dep : List Nat) (hd : (dep.all fun j => o.after.any fun e => Region.binds md e && e.on == j) = true)
    (hs : ∀ f W, F f W → f k = false → (∀ j ∈ dep, f j = true) → ∃ W', (execOp a.eval o).run P W = .ok (.value v) W' ∧ F (fun i => i == k || f i) W') (h : wpF P md ops (CN F) Q rest (k + 1) (a.put o.dst v)) : wpF P md ops (CN F) Q (o :: rest) k a := by
  refine ⟨v, .inl ⟨hw, fun listed W hl hW => ?_⟩, h⟩
  have hk : listed.getD k false = false := by
    have h1 := (mem_ready.1 hl).1
    rcases Nat.lt_or_ge k listed.size with h' | h'
    · simp [h'] at h1 ⊢; exact h1
    · simp [Array.getElem?_eq_none h'] at h1 
  obtain ⟨W', h1, h2⟩ := hs _ W hW hk (fun j hj => ready_after hi (List.all_eq_true.1 hd j hj) hl)
  rw [h1]
  refine ⟨rfl, hD _ _ _ (fun j hj => ?_) h2⟩
  by_cases hjk : j = k
  · subst hjk
    rw [(getD_on (mem_ready.1 hl).1).2]; simp
  · have hne : k ≠ j := Ne.symm hjk
    rw [getD_set_ne false hne]; simp [hjk]
/-- an operation that yields one value in every world, and changes none -/
theorem wpN_pure (hD : Dep F js) (hk : k ∉ js) (hw : Region.wanted o (yielded ops a.tmps) = true) {v : Value} (hr : ∀ W, (execOp a.eval o).run P W = .ok (.value v) W) (h : wpF P md ops (CN F) Q rest (k + 1) (a.put o.dst v)) : wpF P md ops (CN F) Q (o :: rest) k a :=
  ⟨v, .inl ⟨hw, fun listed W hl hW => by rw [hr W]; exact ⟨rfl, hW.skip hD hk⟩⟩, h⟩
theorem run_append_rd {w : World} {t ty e B sz by_ : Nat} {v lv z : Value} {n m : Nat} {xs ys : List Value} (ht : P.underlying t = some (.slice e))
    (hi : (P.info? e).map (fun i => (i.zero, i.size, i.bytes)) = some (some z, sz, by_)) (hzs : z.cells.size = sz) (hsz : 0 < sz)
    (hown : w.ownsRow B e sz v n xs) (hrd : Rd w sz lv m ys) (h1 : ∀ u ∈ ys, u.oneCell' = true) (h63 : n + m ≤ 9223372036854775807) (hbytes : (n + m) * by_ ≤ 140737488355328) (hB : B ≤ w.heap.size) :
    ∃ v' w', (Builtin.append_ #[t, t] ty #[v, lv]).run P w = .ok v' w' ∧ w'.ownsRow B e sz v' (n + m) (xs ++ ys) ∧ w.grownBy w' v.ownBlock := by
  obtain ⟨i, hi1, hi2, hi3, hi4⟩ := info3 hi
  obtain ⟨A, c, rfl, s1, s2, s3, s4, s5⟩ := hrd
  rcases A with _ | ad
  · have hc := s4 rfl
    have hm : m = 0 := by omega
    subst hc; subst hm
    have hy : ys = [] := List.eq_nil_of_length_eq_zero (by simpa using s3)
    subst hy
    exact ⟨v, w, run_append_owned_none (P := P) w B t ty e i sz ht hi1 v n xs hown, by simpa using hown, World.grownBy.refl w _⟩
  · obtain ⟨b, q, sp⟩ := ad
    have hcell : ∀ j u, ys[j]? = some u → w.cell? ((⟨b, q, sp⟩ : Addr).add j) = some u := by
      intro j u hu
      have hm : 0 < m := by
        rcases Nat.eq_zero_or_pos m with h0 | h0
        · subst h0
          have : ys = [] := List.eq_nil_of_length_eq_zero (by simpa using s3)
          subst this; simp at hu
        · exact h0
      obtain ⟨p1, p2, p3⟩ := s5 hm _ rfl
      simp at p1; subst p1
      rw [show ((⟨b, q, none⟩ : Addr).add j) = ⟨b, q + j, none⟩ by unfold Addr.add; split <;> simp_all]
      exact p3 j u hu
    obtain ⟨v', w', hrun, r1, r2, _⟩ := run_append_own (P := P) w B t ty e i z sz by_ ht hi1 hi2 hi3 hi4 hzs hsz v n xs hown ⟨b, q, sp⟩ m c ys s3 hcell h1 (by unfold maxLen; omega) hbytes hB
    exact ⟨v', w', hrun, r1, r2⟩
end
/-- one of five worlds, by which of four operations are done, one behind the other -/
def FCh (k1 k2 k3 k4 : Nat) (W0 W1 W2 W3 W4 : World) : (Nat → Bool) → World → Prop := fun f W =>
  (f k2 = true → f k1 = true) ∧ (f k3 = true → f k2 = true) ∧ (f k4 = true → f k3 = true) ∧ W = (if f k4 = true then W4 else if f k3 = true then W3 else if f k2 = true then W2 else if f k1 = true then W1 else W0)
section
variable {k1 k2 k3 k4 : Nat} {W0 W1 W2 W3 W4 : World}
theorem FCh.dep : Dep (FCh k1 k2 k3 k4 W0 W1 W2 W3 W4) [k1, k2, k3, k4] := by
  rintro f g W hfg ⟨h1, h2, h3, h4⟩
  have e1 := hfg k1 (by simp); have e2 := hfg k2 (by simp); have e3 := hfg k3 (by simp); have e4 := hfg k4 (by simp)
  rw [e1, e2] at h1; rw [e2, e3] at h2; rw [e3, e4] at h3; rw [e1, e2, e3, e4] at h4
  exact ⟨h1, h2, h3, h4⟩
theorem FCh.start : FCh k1 k2 k3 k4 W0 W1 W2 W3 W4 (fun _ => false) W0 := ⟨by simp, by simp, by simp, by simp⟩
theorem FCh.done {W : World} (h : FCh k1 k2 k3 k4 W0 W1 W2 W3 W4 (fun _ => true) W) : W = W4 := by have := h.2.2.2; simpa using this
theorem no_of {b c : Bool} (h : b = true → c = true) (hc : c = false) : b = false := by cases b; rfl; rw [h rfl] at hc; cases hc
theorem FCh.s1 (hk : k1 ≠ k2 ∧ k1 ≠ k3 ∧ k1 ≠ k4) {f : Nat → Bool} {W : World} (h : FCh k1 k2 k3 k4 W0 W1 W2 W3 W4 f W) (h0 : f k1 = false) : W = W0 ∧ FCh k1 k2 k3 k4 W0 W1 W2 W3 W4 (fun i => i == k1 || f i) W1 := by
  obtain ⟨a1, a2, a3, a4⟩ := h
  have b2 := no_of a1 h0; have b3 := no_of a2 b2; have b4 := no_of a3 b3
  refine ⟨by rw [a4]; simp [h0, b2, b3, b4], by simp, ?_, ?_, ?_⟩
  · simp only [b3, Bool.or_false]; intro h; rw [beq_iff_eq] at h; exact absurd h.symm hk.2.1
  · simp only [b4, Bool.or_false]; intro h; rw [beq_iff_eq] at h; exact absurd h.symm hk.2.2
  · have e2 : (k2 == k1) = false := by rw [beq_eq_false_iff_ne]; exact hk.1.symm
    have e3 : (k3 == k1) = false := by rw [beq_eq_false_iff_ne]; exact hk.2.1.symm
    have e4 : (k4 == k1) = false := by rw [beq_eq_false_iff_ne]; exact hk.2.2.symm
    simp [b2, b3, b4, e2, e3, e4]
theorem FCh.s2 (hk : k2 ≠ k1 ∧ k2 ≠ k3 ∧ k2 ≠ k4) {f : Nat → Bool} {W : World} (h : FCh k1 k2 k3 k4 W0 W1 W2 W3 W4 f W) (h0 : f k2 = false) (h1 : f k1 = true) : W = W1 ∧ FCh k1 k2 k3 k4 W0 W1 W2 W3 W4 (fun i => i == k2 || f i) W2 := by
  obtain ⟨a1, a2, a3, a4⟩ := h
  have b3 := no_of a2 h0; have b4 := no_of a3 b3
  have e1 : (k1 == k2) = false := by rw [beq_eq_false_iff_ne]; exact hk.1.symm
  have e3 : (k3 == k2) = false := by rw [beq_eq_false_iff_ne]; exact hk.2.1.symm
  have e4 : (k4 == k2) = false := by rw [beq_eq_false_iff_ne]; exact hk.2.2.symm
  exact ⟨by rw [a4]; simp [h0, h1, b3, b4], by simp [h1], by simp, by simp [b4, e4], by simp [b3, b4, e3, e4]⟩
theorem FCh.s3 (hk : k3 ≠ k1 ∧ k3 ≠ k2 ∧ k3 ≠ k4) {f : Nat → Bool} {W : World} (h : FCh k1 k2 k3 k4 W0 W1 W2 W3 W4 f W) (h0 : f k3 = false) (h1 : f k2 = true) : W = W2 ∧ FCh k1 k2 k3 k4 W0 W1 W2 W3 W4 (fun i => i == k3 || f i) W3 := by
  obtain ⟨a1, a2, a3, a4⟩ := h
  have b4 := no_of a3 h0
  have e4 : (k4 == k3) = false := by rw [beq_eq_false_iff_ne]; exact hk.2.2.symm
  exact ⟨by rw [a4]; simp [h0, h1, b4], by simp [a1 h1], by simp [h1], by simp, by simp [b4, e4]⟩
theorem FCh.s4 (hk : k4 ≠ k1 ∧ k4 ≠ k2 ∧ k4 ≠ k3) {f : Nat → Bool} {W : World} (h : FCh k1 k2 k3 k4 W0 W1 W2 W3 W4 f W) (h0 : f k4 = false) (h1 : f k3 = true) : W = W3 ∧ FCh k1 k2 k3 k4 W0 W1 W2 W3 W4 (fun i => i == k4 || f i) W4 := by
  obtain ⟨a1, a2, a3, a4⟩ := h
  exact ⟨by rw [a4]; simp [h0, h1], by simp [a1 (a2 h1)], by simp [a2 h1], by simp [h1], by simp⟩
end
/-- one of four worlds, by which of three operations are done, one behind the other -/
def FC3 (k1 k2 k3 : Nat) (W0 W1 W2 W3 : World) : (Nat → Bool) → World → Prop := fun f W =>
  (f k2 = true → f k1 = true) ∧ (f k3 = true → f k2 = true) ∧ W = (if f k3 = true then W3 else if f k2 = true then W2 else if f k1 = true then W1 else W0)
section
variable {k1 k2 k3 : Nat} {W0 W1 W2 W3 : World}
theorem FC3.dep : Dep (FC3 k1 k2 k3 W0 W1 W2 W3) [k1, k2, k3] := by
  rintro f g W hfg ⟨h1, h2, h4⟩
  have e1 := hfg k1 (by simp); have e2 := hfg k2 (by simp); have e3 := hfg k3 (by simp)
  rw [e1, e2] at h1; rw [e2, e3] at h2; rw [e1, e2, e3] at h4
  exact ⟨h1, h2, h4⟩
theorem FC3.start : FC3 k1 k2 k3 W0 W1 W2 W3 (fun _ => false) W0 := ⟨by simp, by simp, by simp⟩
theorem FC3.done {W : World} (h : FC3 k1 k2 k3 W0 W1 W2 W3 (fun _ => true) W) : W = W3 := by have := h.2.2; simpa using this
theorem FC3.s1 (hk : k1 ≠ k2 ∧ k1 ≠ k3) {f : Nat → Bool} {W : World} (h : FC3 k1 k2 k3 W0 W1 W2 W3 f W) (h0 : f k1 = false) : W = W0 ∧ FC3 k1 k2 k3 W0 W1 W2 W3 (fun i => i == k1 || f i) W1 := by
  obtain ⟨a1, a2, a4⟩ := h
  have b2 := no_of a1 h0; have b3 := no_of a2 b2
  have e2 : (k2 == k1) = false := by rw [beq_eq_false_iff_ne]; exact hk.1.symm
  have e3 : (k3 == k1) = false := by rw [beq_eq_false_iff_ne]; exact hk.2.symm
  exact ⟨by rw [a4]; simp [h0, b2, b3], by simp, by simp [b3, e3], by simp [b2, b3, e2, e3]⟩
theorem FC3.s2 (hk : k2 ≠ k1 ∧ k2 ≠ k3) {f : Nat → Bool} {W : World} (h : FC3 k1 k2 k3 W0 W1 W2 W3 f W) (h0 : f k2 = false) (h1 : f k1 = true) : W = W1 ∧ FC3 k1 k2 k3 W0 W1 W2 W3 (fun i => i == k2 || f i) W2 := by
  obtain ⟨a1, a2, a4⟩ := h
  have b3 := no_of a2 h0
  have e3 : (k3 == k2) = false := by rw [beq_eq_false_iff_ne]; exact hk.2.symm
  exact ⟨by rw [a4]; simp [h0, h1, b3], by simp [h1], by simp, by simp [b3, e3]⟩
theorem FC3.s3 (hk : k3 ≠ k1 ∧ k3 ≠ k2) {f : Nat → Bool} {W : World} (h : FC3 k1 k2 k3 W0 W1 W2 W3 f W) (h0 : f k3 = false) (h1 : f k2 = true) : W = W2 ∧ FC3 k1 k2 k3 W0 W1 W2 W3 (fun i => i == k3 || f i) W3 := by
  obtain ⟨a1, a2, a4⟩ := h
  exact ⟨by rw [a4]; simp [h0, h1], by simp [a1 h1], by simp [h1], by simp⟩
end
end Go.Proofs.Ytgjpohhafmkhcaa
namespace Go.Proofs.Ytgjpohhafmkhcaa
open Go Go.RowKit
/-- the first d of the operations ks are done, the world is Ws d; the read r comes before the operation number m. -/
def FL (ks : List Nat) (Ws : Nat → World) (r m : Nat) : (Nat → Bool) → World → Prop := fun f W =>
  ∃ d, d ≤ ks.length ∧ (∀ i k, ks[i]? = some k → f k = decide (i < d)) ∧ W = Ws d ∧ (m < d → f r = true)
section
variable {ks : List Nat} {Ws : Nat → World} {r m : Nat}
theorem FL.dep : Dep (FL ks Ws r m) (r :: ks) := by
  rintro f g W hfg ⟨d, h1, h2, h3, h4⟩
  refine ⟨d, h1, fun i k hk => ?_, h3, fun hm => ?_⟩
  · rw [← hfg k (List.mem_cons_of_mem _ (List.mem_of_getElem? hk))]; exact h2 i k hk
  · rw [← hfg r List.mem_cons_self]; exact h4 hm
theorem FL.start : FL ks Ws r m (fun _ => false) (Ws 0) := ⟨0, Nat.zero_le _, fun i k _ => by simp, rfl, fun h => by omega⟩
theorem FL.done {W : World} (h : FL ks Ws r m (fun _ => true) W) : W = Ws ks.length := by
  obtain ⟨d, h1, h2, h3, h4⟩ := h
  rw [h3]
  congr 1
  by_cases hd : d = ks.length
  · exact hd
  · have hlt : d < ks.length := by omega
    have := h2 d ks[d] (List.getElem?_eq_getElem hlt)
    simp at this
theorem FL.step {i k : Nat} (hk : ks[i]? = some k) (hn : ks.Nodup) {f : Nat → Bool} {W : World} (h : FL ks Ws r m f W) (h0 : f k = false) (hp : ∀ p, i = p + 1 → ∀ k', ks[p]? = some k' → f k' = true) (hm : i = m → f r = true) :
    W = Ws i ∧ FL ks Ws r m (fun j => j == k || f j) (Ws (i + 1)) := by
  obtain ⟨d, h1, h2, h3, h4⟩ := h
  have hil : i < ks.length := (List.getElem?_eq_some_iff.1 hk).1
  have hd1 : ¬ i < d := by have := h2 i k hk; rw [h0] at this; simpa using this.symm
  have hd2 : i ≤ d := by
    rcases i with _ | p
    · omega
    · have hp' : ks[p]? = some ks[p] := List.getElem?_eq_getElem (by omega)
      have e1 := hp p rfl _ hp'
      rw [h2 p _ hp'] at e1
      have := of_decide_eq_true e1
      omega
  obtain rfl : d = i := by omega
  refine ⟨h3, d + 1, by omega, fun j k' hk' => ?_, rfl, fun hmd => ?_⟩
  · by_cases hj : j = d
    · subst hj
      rw [hk] at hk'; injection hk' with hk'; subst hk'
      simp
    · have hne : k' ≠ k := fun e => by
        subst e
        exact hj ((List.getElem?_inj (List.getElem?_eq_some_iff.1 hk').1 hn).1 (hk'.trans hk.symm))
      have e1 : (k' == k) = false := by rw [beq_eq_false_iff_ne]; exact hne
      simp only [e1, Bool.false_or]
      rw [h2 j k' hk']
      have : (j < d) = (j < d + 1) := by rw [eq_iff_iff]; omega
      simp only [this]
  · by_cases hmi : d = m
    · simp [hm hmi]
    · simp [h4 (by omega)]
theorem FL.prev {p q : Nat} {f : Nat → Bool} (hq : ks[p]? = some q) (h : f q = true) : ∀ p', p + 1 = p' + 1 → ∀ k', ks[p']? = some k' → f k' = true := by
  intro p' hp k' hk
  obtain rfl : p = p' := by omega
  rw [hq] at hk; injection hk with hk; subst hk; exact h
theorem FL.read (hr : r ∉ ks) {f : Nat → Bool} {W : World} (h : FL ks Ws r m f W) (h0 : f r = false) : (∃ d, d ≤ ks.length ∧ d ≤ m ∧ W = Ws d) ∧ FL ks Ws r m (fun j => j == r || f j) W := by
  obtain ⟨d, h1, h2, h3, h4⟩ := h
  have hdm : d ≤ m := by
    rcases Nat.lt_or_ge m d with h | h
    · rw [h4 h] at h0; cases h0
    · exact h
  refine ⟨⟨d, h1, hdm, h3⟩, d, h1, fun i k hk => ?_, h3, fun _ => by simp⟩
  have hne : (k == r) = false := by rw [beq_eq_false_iff_ne]; exact fun e => hr (e ▸ List.mem_of_getElem? hk)
  simp only [hne, Bool.false_or]
  exact h2 i k hk
theorem FL.agree {Ws' : Nat → World} {k0 : Nat} (hk : ks[0]? = some k0) (h0 : Ws 0 = Ws' 0) {f : Nat → Bool} {W : World} (hf : f k0 = false) (h : FL ks Ws r m f W) : FL ks Ws' r m f W := by
  obtain ⟨d, h1, h2, h3, h4⟩ := h
  have := h2 0 k0 hk
  rw [hf] at this
  have hd : d = 0 := by
    rcases Nat.eq_zero_or_pos d with h | h
    · exact h
    · rw [decide_eq_true h] at this; cases this
  subst hd
  exact ⟨0, h1, h2, h3.trans h0, h4⟩
theorem FL.all {p : World → Prop} (h : ∀ d, d ≤ ks.length → p (Ws d)) (x : FXN (FL ks Ws r m)) : p x.W := by
  obtain ⟨W, f, d, h1, _, h3, _⟩ := x
  subst h3; exact h d h1
end
section
variable {P : Program} {ops : Array Oper} {rest : List Oper} {o : Oper} {a : Act} {Q : Act → Prop} {F : (Nat → Bool) → World → Prop} {js : List Nat} {k : Nat} {md : Region.Mode}
/-- a store, where others that it waits for are done -/
theorem wpN_storeD (hD : Dep F js) (hi : ops[k]? = some o) (ty : TypeId) (px py : Operand) (ho : o.op = .store ty px py) (hw : Region.wanted o (yielded ops a.tmps) = true) {p u : Value} (hx : a.eval px = p) (hy : a.eval py = u) (dep : List Nat) (hd : (dep.all fun j => o.after.any fun e => Region.binds md e && e.on == j) = true)
    (hs : ∀ f W, F f W → f k = false → (∀ j ∈ dep, f j = true) → ∃ W', (Instr.storeAt ty p u).run P W = .ok () W' ∧ F (fun i => i == k || f i) W') (h : wpF P md ops (CN F) Q rest (k + 1) (a.put o.dst undef)) : wpF P md ops (CN F) Q (o :: rest) k a := by
  refine ⟨undef, .inl ⟨hw, fun listed W hl hW => ?_⟩, h⟩
  have hk : listed.getD k false = false := by
    have h1 := (mem_ready.1 hl).1
    rcases Nat.lt_or_ge k listed.size with h' | h'
    · simp [h'] at h1 ⊢; exact h1
    · simp [Array.getElem?_eq_none h'] at h1 
  obtain ⟨W', h1, h2⟩ := hs _ W hW hk (fun j hj => ready_after hi (List.all_eq_true.1 hd j hj) hl)
  unfold execOp
  simp only [ho, hx, hy, Sem.run_bind, h1, Result.andThen_ok, Sem.run_pure, uponF, true_and]
  refine hD _ _ _ (fun j hj => ?_) h2
  by_cases hjk : j = k
  · subst hjk
    rw [(getD_on (mem_ready.1 hl).1).2]; simp
  · have hne : k ≠ j := Ne.symm hjk
    rw [getD_set_ne false hne]; simp [hjk]
end
end Go.Proofs.Ytgjpohhafmkhcaa
namespace Go.Proofs.Ytgjpohhafmkhcaa
open Go Go.RowKit
section
variable {P : Program} {ops : Array Oper} {md : Region.Mode}
def uponV (Post : World → Prop) (v : Value) : Result Next → Prop
  | .ok (.value u) w' => u = v ∧ Post w'
  | .ok .skip w' => v = undef ∧ Post w'
  | _ => False
def YieldsV (P : Program) (md : Region.Mode) (ops : Array Oper) (C : Array Bool → World → Prop) (i : Nat) (o : Oper) (v : Value) (a : Act) : Prop :=
  (Region.wanted o (yielded ops a.tmps) = true ∧ ∀ listed w, i ∈ Region.ready md ops listed → C listed w → uponV (C (listed.setIfInBounds i true)) v ((execOp a.eval o).run P w)) ∨
  (Region.wanted o (yielded ops a.tmps) = false ∧ v = undef ∧ ∀ listed w, i ∈ Region.ready md ops listed → C listed w → C (listed.setIfInBounds i true) w)
/-- number k0 yields the value x, whatever its world; the others as they do -/
def YieldsG (P : Program) (md : Region.Mode) (ops : Array Oper) (C : Array Bool → World → Prop) (k0 : Nat) (x : Value) (i : Nat) (o : Oper) (v : Value) (a : Act) : Prop :=
  (i = k0 ∧ v = x ∧ Region.wanted o (yielded ops a.tmps) = true) ∨ (i ≠ k0 ∧ YieldsV P md ops C i o v a)
theorem YieldsV.of_same {C : Array Bool → World → Prop} {i : Nat} {o : Oper} {v : Value} {a a' : Act} (hy : YieldsV P md ops C i o v a) (he : execOp a'.eval o = execOp a.eval o)
    (hw : Region.wanted o (yielded ops a'.tmps) = Region.wanted o (yielded ops a.tmps)) : YieldsV P md ops C i o v a' := by
  unfold YieldsV at *
  rw [he, hw]
  exact hy
theorem YieldsG.of_same {C : Array Bool → World → Prop} {k0 : Nat} {x : Value} {i : Nat} {o : Oper} {v : Value} {a a' : Act} (hy : YieldsG P md ops C k0 x i o v a) (he : execOp a'.eval o = execOp a.eval o)
    (hw : Region.wanted o (yielded ops a'.tmps) = Region.wanted o (yielded ops a.tmps)) : YieldsG P md ops C k0 x i o v a' := by
  rcases hy with ⟨h1, h2, h3⟩ | ⟨h1, h2⟩
  · exact .inl ⟨h1, h2, by rw [hw]; exact h3⟩
  · exact .inr ⟨h1, h2.of_same he hw⟩
/-- T a: what the operation k0 does at the act a -/
def qOpG (P : Program) (md : Region.Mode) (ops : Array Oper) (C : Array Bool → World → Prop) (k0 : Nat) (x : Value) (T : Sem Next → Prop) (i : Nat) (K : Act → Prop) (a : Act) : Prop :=
  match ops[i]? with
  | none => False
  | some o => ∃ v, (YieldsG P md ops C k0 x i o v a ∧ (i = k0 → T (execOp a.eval o))) ∧ K (a.put o.dst v)
variable {C : Array Bool → World → Prop} {k0 : Nat} {x : Value} {T : Sem Next → Prop}
theorem qOpG_mono {i : Nat} {a : Act} {K K' : Act → Prop} (h : ∀ a, K a → K' a) (hh : qOpG P md ops C k0 x T i K a) : qOpG P md ops C k0 x T i K' a := by
  unfold qOpG at *
  split
  · rename_i ho; simp only [ho] at hh
  · rename_i o ho
    simp only [ho] at hh
    obtain ⟨v, h1, h2⟩ := hh
    exact ⟨v, h1, h _ h2⟩
def wpAnyG (P : Program) (md : Region.Mode) (ops : Array Oper) (C : Array Bool → World → Prop) (k0 : Nat) (x : Value) (T : Sem Next → Prop) (Q : Array Bool → Act → Prop) : Nat → Array Bool → Act → Prop
  | 0, listed, a => Region.ready md ops listed = [] ∧ Q listed a
  | fuel + 1, listed, a =>
    (Region.ready md ops listed = [] → Q listed a) ∧
    ∀ i ∈ Region.ready md ops listed, qOpG P md ops C k0 x T i (wpAnyG P md ops C k0 x T Q fuel (listed.setIfInBounds i true)) a
theorem qOpG_put {i j : Nat} {oi oj : Oper} {v : Value} (hj : ops[j]? = some oj) (hap : oi.apart ops oj = true)
    (hsi : ∀ cs b, oi.op ≠ .select cs b) (hsj : ∀ cs b, oj.op ≠ .select cs b) {K : Act → Prop} {a : Act}
    (hy : YieldsG P md ops C k0 x i oi v a ∧ (i = k0 → T (execOp a.eval oi))) (h : qOpG P md ops C k0 x T j K (a.put oi.dst v)) :
    qOpG P md ops C k0 x T j (fun a' => (YieldsG P md ops C k0 x i oi v a' ∧ (i = k0 → T (execOp a'.eval oi))) ∧ K (a'.put oi.dst v)) a := by
  obtain ⟨h1, h2, h3⟩ := Oper.apart_spec hap
  unfold qOpG at *
  simp only [hj] at *
  obtain ⟨u, ⟨hu, hu2⟩, hn⟩ := h
  refine ⟨u, ⟨hu.of_same ?_ ?_, fun e => ?_⟩, ⟨hy.1.of_same ?_ ?_, fun e => ?_⟩, ?_⟩
  · exact (execOp_put oj hsj a oi.dst v h1).symm
  · exact (wanted_put oj a oi.dst v h1).symm
  · have := hu2 e; rwa [execOp_put oj hsj a oi.dst v h1] at this
  · exact execOp_put oi hsi a oj.dst u h3
  · exact wanted_put oi a oj.dst u h3
  · have := hy.2 e; rwa [execOp_put oi hsi a oj.dst u h3]
  · rw [← Act.put_comm a v u h2]; exact hn
theorem wpAnyG_first {Q : Array Bool → Act → Prop} {i : Nat} {oi : Oper} {v : Value} (hi : ops[i]? = some oi) (hsel : ∀ (j : Nat) (o : Oper) cs b, ops[j]? = some o → o.op ≠ .select cs b) :
    ∀ (fuel : Nat) (listed : Array Bool) (a : Act),
      (∀ j oj, ops[j]? = some oj → j ≠ i → listed.getD j true = false → (∀ e ∈ oj.after, Region.binds md e = true → e.on ≠ i) → oi.apart ops oj = true) →
      i ∈ Region.ready md ops listed → YieldsG P md ops C k0 x i oi v a ∧ (i = k0 → T (execOp a.eval oi)) →
      wpAnyG P md ops C k0 x T Q fuel (listed.setIfInBounds i true) (a.put oi.dst v) → wpAnyG P md ops C k0 x T Q (fuel + 1) listed a := by
  intro fuel
  induction fuel with
  | zero =>
    intro listed a _ hr hy H
    refine ⟨fun h => (by rw [h] at hr; cases hr), fun j hj => ?_⟩
    by_cases hji : j = i
    · subst hji
      unfold qOpG; simp only [hi]
      exact ⟨v, hy, H⟩
    · have := ready_mono hj hji
      rw [H.1] at this
      cases this
  | succ fuel ih =>
    intro listed a hfree hr hy H
    refine ⟨fun h => (by rw [h] at hr; cases hr), fun j hj => ?_⟩
    by_cases hji : j = i
    · subst hji
      unfold qOpG; simp only [hi]
      exact ⟨v, hy, H⟩
    · have h1 := H.2 j (ready_mono hj hji)
      obtain ⟨hjun, oj, hoj, hall⟩ := mem_ready.1 hj
      have hnot : ∀ e ∈ oj.after, Region.binds md e = true → e.on ≠ i := fun e he hb heq => by
        have h1 := hall e he hb
        have h0 := (mem_ready.1 hr).1
        rw [heq] at h1
        rcases Nat.lt_or_ge i listed.size with h' | h'
        · simp [h'] at h0 h1; rw [h0] at h1; cases h1
        · simp [Array.getElem?_eq_none h'] at h1
      have h2 := qOpG_put hoj (hfree j oj hoj hji hjun hnot) (fun cs b => hsel i oi cs b hi) (fun cs b => hsel j oj cs b hoj) hy h1
      have hfree' : ∀ k ok, ops[k]? = some ok → k ≠ i → (listed.setIfInBounds j true).getD k true = false →
          (∀ e ∈ ok.after, Region.binds md e = true → e.on ≠ i) → oi.apart ops ok = true := fun k ok hk hki hun hno => by
        refine hfree k ok hk hki ?_ hno
        by_cases hjk : j = k
        · subst hjk; exact hjun
        · rw [getD_set_ne true hjk] at hun; exact hun
      refine qOpG_mono (fun a' h3 => ih (listed.setIfInBounds j true) a' hfree' (ready_mono hr (Ne.symm hji)) h3.1 ?_) h2
      rw [Array.setIfInBounds_comm _ _ hji]
      exact h3.2
/-- the walk in the order of the text, number k first -/
def wpG (P : Program) (md : Region.Mode) (ops : Array Oper) (C : Array Bool → World → Prop) (k0 : Nat) (x : Value) (T : Sem Next → Prop) (Q : Act → Prop) : List Oper → Nat → Act → Prop
  | [], _, a => Q a
  | o :: rest, k, a => ∃ v, (YieldsG P md ops C k0 x k o v a ∧ (k = k0 → T (execOp a.eval o))) ∧ wpG P md ops C k0 x T Q rest (k + 1) (a.put o.dst v)
theorem wpAnyG_lex {Q : Array Bool → Act → Prop} (hs : Region.noSelect ops = true) : ∀ (l : List Oper) (k : Nat) (listed : Array Bool) (a : Act), (∀ j, l[j]? = ops[k + j]?) →
    Region.lexFrom md ops l.length k listed = true → wpG P md ops C k0 x T (Q (setAll l.length k listed)) l k a → wpAnyG P md ops C k0 x T Q l.length listed a
  | [], _, _, _, _, hB, h => ⟨by simpa [Region.lexFrom] using hB, h⟩
  | o :: l, k, listed, a, hl, hB, h => by
    have h0 : ops[k]? = some o := by simpa using (hl 0).symm
    simp only [List.length_cons, Region.lexFrom, Bool.and_eq_true] at hB
    obtain ⟨⟨hr, hf⟩, hB'⟩ := hB
    obtain ⟨v, hy, hK⟩ := h
    exact wpAnyG_first h0 (Region.noSelect_spec hs) l.length listed a (Region.free_spec h0 hf) (by simpa using hr) hy
      (wpAnyG_lex hs l (k + 1) _ _ (fun j => by have := hl (j + 1); simpa [Nat.add_assoc, Nat.add_comm 1 j] using this) hB' hK)
/-- behind the call: all is known -/
theorem wpAnyF_of_G {Q : Array Bool → Act → Prop} : ∀ (fuel : Nat) (listed : Array Bool) (a : Act), listed.getD k0 false = true → wpAnyG P md ops C k0 x T Q fuel listed a → wpAnyF P md ops C Q fuel listed a
  | 0, _, _, _, h => h
  | fuel + 1, listed, a, hk, h => by
    refine ⟨h.1, fun i hi => ?_⟩
    have h1 := h.2 i hi
    have hne : i ≠ k0 := fun e => by
      subst e
      have h0 := (mem_ready.1 hi).1
      rcases Nat.lt_or_ge i listed.size with h' | h'
      · simp [h'] at h0 hk; rw [h0] at hk; cases hk
      · simp [Array.getElem?_eq_none h'] at h0
    unfold qOpG at h1
    unfold qOpF
    split
    · rename_i ho; simp only [ho] at h1
    · rename_i o ho
      simp only [ho] at h1
      obtain ⟨v, ⟨h2, _⟩, h3⟩ := h1
      refine ⟨v, ?_, wpAnyF_of_G fuel _ _ (by rw [getD_set_ne false hne]; exact hk) h3⟩
      rcases h2 with ⟨e, _⟩ | ⟨_, h2⟩
      · exact absurd e hne
      · rcases h2 with ⟨hw, h4⟩ | h4
        · refine .inl ⟨hw, fun l w hl hC => ?_⟩
          have h5 := h4 l w hl hC
          cases hr : (execOp a.eval o).run P w with
          | ok n w' => rw [hr] at h5; cases n <;> simp only [uponV] at h5 <;> exact h5
          | halt y w' => rw [hr] at h5; simp only [uponV] at h5
        · exact .inr h4
theorem uponV_val {Post Post' : World → Prop} {v v' : Value} {r : Result Next} (h : uponV Post v r) (h' : uponV Post' v' r) : v = v' := by
  cases r with
  | ok n w' =>
    cases n <;> simp only [uponV] at h h'
    · rw [← h.1, ← h'.1]
    · rw [h.1, h'.1]
  | halt y w' => simp only [uponV] at h
/-- the theorem: G is what is not known ahead; val its value; C g what holds of worlds where it is g -/
theorem wpAny_of_G {G : Type} {val : G → Value} {V : G → Prop} {Cg : G → Array Bool → World → Prop} {Tg : Sem Next → Prop} {Q' : Exit → Act → World → Prop} (g0 : G) (hg0 : V g0)
    (hag : ∀ g g' listed w, listed.getD k0 false = false → Cg g listed w → Cg g' listed w)
    (hT : ∀ s listed w, Tg s → k0 ∈ Region.ready md ops listed → Cg g0 listed w → ∃ f args, s.run P w = .ok (.enter f args) w ∧ Calls P f args w fun e w' => ∃ g, V g ∧ e = .returned (val g) ∧ Cg g (listed.setIfInBounds k0 true) w') :
    ∀ (fuel : Nat) (listed : Array Bool) (a : Act) (w : World), listed.getD k0 false = false → Cg g0 listed w →
    (∀ g, V g → wpAnyG P md ops (Cg g) k0 (val g) Tg (fun listed a => ∀ w', Cg g listed w' → Q' .normal a w') fuel listed a) → wpAny P md ops Q' fuel listed a w
  | 0, listed, a, w, hk, hC, h => ⟨(h g0 hg0).1, (h g0 hg0).2 w hC⟩
  | fuel + 1, listed, a, w, hk, hC, h => by
    refine ⟨fun h0 => (h g0 hg0).1 h0 w hC, fun i hi => ?_⟩
    have h1 := (h g0 hg0).2 i hi
    unfold qOpG at h1
    unfold wpOp
    split
    · rename_i ho; simp only [ho] at h1
    · rename_i o ho
      simp only [ho] at h1
      obtain ⟨v, ⟨h2, hT0⟩, h3⟩ := h1
      rcases h2 with ⟨e, hv, hw⟩ | ⟨hne, h2⟩
      · subst e
        rw [if_pos hw]
        left
        obtain ⟨f, args, hr, hcall⟩ := hT _ listed w (hT0 rfl) hi hC
        unfold Oper.wp
        rw [hr]
        show Calls P f args w _
        refine hcall.mono fun e w'' ⟨g, hg, he, hCg⟩ => ?_
        subst he
        have h4 := (h g hg).2 i hi
        unfold qOpG at h4
        simp only [ho] at h4
        obtain ⟨v', ⟨h5, _⟩, h6⟩ := h4
        rcases h5 with ⟨_, e5, _⟩ | ⟨hne, _⟩
        · subst e5
          refine wpAny_of_F (C := Cg g) (Q := fun listed a => ∀ w', Cg g listed w' → Q' .normal a w') (fun l a w hC h => h w hC) fuel _ _ w'' hCg (wpAnyF_of_G fuel _ _ ?_ h6)
          exact (getD_on (mem_ready.1 hi).1).2
        · exact absurd rfl hne
      · have hset : (listed.setIfInBounds i true).getD k0 false = false := by rw [getD_set_ne false hne]; exact hk
        have hval : ∀ g, V g → wpAnyG P md ops (Cg g) k0 (val g) Tg (fun listed a => ∀ w', Cg g listed w' → Q' .normal a w') fuel (listed.setIfInBounds i true) (a.put o.dst v) := by
          intro g hg
          have h4 := (h g hg).2 i hi
          unfold qOpG at h4
          simp only [ho] at h4
          obtain ⟨v', ⟨h5, _⟩, h6⟩ := h4
          rcases h5 with ⟨e, _⟩ | ⟨_, h5⟩
          · exact absurd e hne
          · have hvv : v = v' := by
              rcases h2 with ⟨hw, ha⟩ | ⟨hw, rfl, _⟩
              · rcases h5 with ⟨_, hb⟩ | ⟨hw', _⟩
                · exact uponV_val (ha listed w hi hC) (hb listed w hi (hag _ _ _ _ hk hC))
                · rw [hw] at hw'; cases hw'
              · rcases h5 with ⟨hw', _⟩ | ⟨_, e, _⟩
                · rw [hw] at hw'; cases hw'
                · exact e.symm
            rw [hvv]; exact h6
        rcases h2 with ⟨hw, ha⟩ | ⟨hw, rfl, hv⟩
        · rw [if_pos hw]
          left
          have h5 := ha listed w hi hC
          unfold Oper.wp
          generalize (execOp a.eval o).run P w = r at *
          cases r with
          | ok n w' =>
            cases n <;> simp only [uponV] at h5 <;> simp only [Oper.upon]
            case value u => obtain ⟨e1, e2⟩ := h5; rw [e1]; exact wpAny_of_G g0 hg0 hag hT fuel _ _ w' hset e2 hval
            case skip => obtain ⟨e1, e2⟩ := h5; rw [← e1]; exact wpAny_of_G g0 hg0 hag hT fuel _ _ w' hset e2 hval
          | halt y w' => simp only [uponV] at h5
        · rw [if_neg (by rw [hw]; exact Bool.false_ne_true)]
          exact wpAny_of_G g0 hg0 hag hT fuel _ _ w hset (hv listed w hi hC) hval
end
section
variable {P : Program} {ops : Array Oper} {rest : List Oper} {o : Oper} {a : Act} {Q : Act → Prop} {F : (Nat → Bool) → World → Prop} {js : List Nat} {k k0 : Nat} {md : Region.Mode} {x : Value} {T : Sem Next → Prop}
theorem wpG_nil (h : Q a) : wpG P md ops (CN F) k0 x T Q [] k a := h
/-- the call -/
theorem wpG_call {dst : Option Tmp} {f : FuncId} {xs : Array Operand} {ats : Array TypeId} {ty : TypeId} {pos : String} {after : Array Edge} {g : Option (Nat × Bool)} (av : Array Value)
    (hw : Region.wanted ⟨dst, .call ⟨.value (.func f), xs, ats⟩, ty, pos, after, g⟩ (yielded ops a.tmps) = true) (hav : xs.map a.eval = av) (hcf : ∀ W, (callFunc f (#[] ++ av ++ #[])).run P W = .ok (.enter f av) W)
    (h : wpG P md ops (CN F) k x (fun s => ∀ W, s.run P W = .ok (.enter f av) W) Q rest (k + 1) (a.put dst x)) :
    wpG P md ops (CN F) k x (fun s => ∀ W, s.run P W = .ok (.enter f av) W) Q (⟨dst, .call ⟨.value (.func f), xs, ats⟩, ty, pos, after, g⟩ :: rest) k a :=
  ⟨x, ⟨.inl ⟨rfl, rfl, hw⟩, fun _ W => by rw [execOp_call_go, hav, hcf]⟩, h⟩
theorem wpG_read (hD : Dep F js) (hV : isV o.op = true) (hk : k ∉ js) (hk0 : k0 ∈ js) (h : wpQuiet P ops (fun W => ∃ x : FXN F, W = x.W) (fun a' => wpG P md ops (CN F) k0 x T Q rest (k + 1) a') [o] a) : wpG P md ops (CN F) k0 x T Q (o :: rest) k a := by
  have hne : k ≠ k0 := fun e => hk (e ▸ hk0)
  unfold wpQuiet at h
  split at h
  · rename_i hw
    obtain ⟨v, h1, h2⟩ := h
    refine ⟨v, ⟨.inr ⟨hne, .inl ⟨hw, fun listed W hl hW => ?_⟩⟩, fun e => absurd e hne⟩, h2⟩
    have h3 := h1 W ⟨⟨W, _, hW⟩, rfl⟩
    unfold Oper.quietAt at h3
    cases hr : (execOp a.eval o).run P W with
    | ok n w' =>
      obtain ⟨u, rfl⟩ := isV_value hV hr
      rw [hr] at h3
      simp only [Oper.quietUpon] at h3
      simp only [uponV]
      obtain ⟨e1, e2⟩ := h3
      subst e1
      exact ⟨e2, hW.skip hD hk⟩
    | halt x w' => rw [hr] at h3; simp only [Oper.quietUpon] at h3
  · rename_i hw
    exact ⟨undef, ⟨.inr ⟨hne, .inr ⟨by simpa using hw, rfl, fun listed W hl hW => hW.skip hD hk⟩⟩, fun e => absurd e hne⟩, h⟩
/-- an operation that changes the world, or a read at some worlds alone, where others that it waits for are done -/
theorem wpG_step (hD : Dep F js) (hk0 : (k != k0) = true) (hi : ops[k]? = some o) (hw : Region.wanted o (yielded ops a.tmps) = true) {v : Value} (dep : List Nat) (hd : (dep.all fun j => o.after.any fun e => Region.binds md e && e.on == j) = true)
    (hs : ∀ f W, F f W → f k = false → (∀ j ∈ dep, f j = true) → ∃ W', (execOp a.eval o).run P W = .ok (.value v) W' ∧ F (fun i => i == k || f i) W') (h : wpG P md ops (CN F) k0 x T Q rest (k + 1) (a.put o.dst v)) : wpG P md ops (CN F) k0 x T Q (o :: rest) k a := by
  have hne : k ≠ k0 := by simpa using hk0
  refine ⟨v, ⟨.inr ⟨hne, .inl ⟨hw, fun listed W hl hW => ?_⟩⟩, fun e => absurd e hne⟩, h⟩
  have hk : listed.getD k false = false := by
    have h1 := (mem_ready.1 hl).1
    rcases Nat.lt_or_ge k listed.size with h' | h'
    · simp [h'] at h1 ⊢; exact h1
    · simp [Array.getElem?_eq_none h'] at h1 
  obtain ⟨W', h1, h2⟩ := hs _ W hW hk (fun j hj => ready_after hi (List.all_eq_true.1 hd j hj) hl)
  rw [h1]
  refine ⟨rfl, hD _ _ _ (fun j hj => ?_) h2⟩
  by_cases hjk : j = k
  · subst hjk
    rw [(getD_on (mem_ready.1 hl).1).2]; simp
  · have hne : k ≠ j := Ne.symm hjk
    rw [getD_set_ne false hne]; simp [hjk]
theorem wpG_store (hD : Dep F js) (hk0 : (k != k0) = true) (hi : ops[k]? = some o) (ty : TypeId) (px py : Operand) (ho : o.op = .store ty px py) (hw : Region.wanted o (yielded ops a.tmps) = true) {p u : Value} (hx : a.eval px = p) (hy : a.eval py = u) (dep : List Nat) (hd : (dep.all fun j => o.after.any fun e => Region.binds md e && e.on == j) = true)
    (hs : ∀ f W, F f W → f k = false → (∀ j ∈ dep, f j = true) → ∃ W', (Instr.storeAt ty p u).run P W = .ok () W' ∧ F (fun i => i == k || f i) W') (h : wpG P md ops (CN F) k0 x T Q rest (k + 1) (a.put o.dst undef)) : wpG P md ops (CN F) k0 x T Q (o :: rest) k a := by
  have hne : k ≠ k0 := by simpa using hk0
  refine ⟨undef, ⟨.inr ⟨hne, .inl ⟨hw, fun listed W hl hW => ?_⟩⟩, fun e => absurd e hne⟩, h⟩
  have hk : listed.getD k false = false := by
    have h1 := (mem_ready.1 hl).1
    rcases Nat.lt_or_ge k listed.size with h' | h'
    · simp [h'] at h1 ⊢; exact h1
    · simp [Array.getElem?_eq_none h'] at h1 
  obtain ⟨W', h1, h2⟩ := hs _ W hW hk (fun j hj => ready_after hi (List.all_eq_true.1 hd j hj) hl)
  unfold execOp
  simp only [ho, hx, hy, Sem.run_bind, h1, Result.andThen_ok, Sem.run_pure, uponV, true_and]
  refine hD _ _ _ (fun j hj => ?_) h2
  by_cases hjk : j = k
  · subst hjk
    rw [(getD_on (mem_ready.1 hl).1).2]; simp
  · have hne : k ≠ j := Ne.symm hjk
    rw [getD_set_ne false hne]; simp [hjk]
end
/-- gd: what is laid for g before the call; it says nothing. -/
theorem wp_region_G {P : Program} {id : Nat} {Q : Exit → Act → World → Prop} {a : Act} {w : World} {l : List Oper} {G : Type} (val : G → Value) (V : G → Prop) (F : G → (Nat → Bool) → World → Prop) (js : List Nat) (k0 : Nat) (gd : G) (f : FuncId) (av : Array Value)
    (hD : ∀ g, Dep (F g) js) (hm : P.follows .mixedOrders = true) (hB : Region.lexB .any l.toArray = true)
    (hf : (js.all fun j => (setAll l.length 0 (Array.replicate l.length false)).getD j false) = true)
    (hag : ∀ g g' φ W, φ k0 = false → F g φ W → F g' φ W) (hC : F gd (fun _ => false) w.drew) (hk0 : k0 ∈ js)
    (hcall : ∀ φ W, φ k0 = false → F gd φ W → Calls P f av W fun e W' => ∃ g, V g ∧ e = .returned (val g) ∧ F g (fun i => i == k0 || φ i) W')
    (h : ∀ g, V g → wpG P .any l.toArray (CN (F g)) k0 (val g) (fun s => ∀ W, s.run P W = .ok (.enter f av) W) (fun a' => ∀ w', F g (fun _ => true) w' → Q .normal a' w') l 0 a) : (Code.region id l.toArray true).wp P Q a w := by
  obtain ⟨g0, hg0⟩ : ∃ g, V g := by
    obtain ⟨e, w', fr, ⟨g, hg, _⟩, _⟩ := hcall (fun _ => false) w.drew rfl hC []
    exact ⟨g, hg⟩
  have hrep : ∀ j, (Array.replicate l.length false).getD j false = false := fun j => getD_replicate_false _ _
  simp only [Region.lexB, Bool.and_eq_true] at hB
  refine wp_region_any hm (wpAny_of_G (val := val) (V := V) (Cg := fun g => CN (F g)) (Tg := fun s => ∀ W, s.run P W = .ok (.enter f av) W) (k0 := k0) g0 hg0 ?_ ?_ _ _ _ _ (by simpa using hrep k0) ?_ ?_)
  · intro g g' listed W hk hW
    exact hag g g' _ W hk hW
  · intro s listed W hs hr hW
    refine ⟨f, av, hs W, ?_⟩
    have hk : listed.getD k0 false = false := by
      have h1 := (mem_ready.1 hr).1
      rcases Nat.lt_or_ge k0 listed.size with h' | h'
      · simp [h'] at h1 ⊢; exact h1
      · simp [Array.getElem?_eq_none h'] at h1
    refine (hcall _ W hk (hag _ _ _ _ hk hW)).mono fun e W' ⟨g, h1, h2, h3⟩ => ⟨g, h1, h2, ?_⟩
    refine hD g _ _ _ (fun j hj => ?_) h3
    by_cases hjk : j = k0
    · subst hjk
      rw [(getD_on (mem_ready.1 hr).1).2]; simp
    · have hne : k0 ≠ j := Ne.symm hjk
      rw [getD_set_ne false hne]; simp [hjk]
  · refine hD g0 _ _ _ (fun j _ => ?_) (hag gd g0 _ _ rfl hC)
    have := hrep j
    simpa using this.symm
  · intro g hg
    have e2 : ∀ w', CN (F g) (setAll l.length 0 (Array.replicate l.length false)) w' → F g (fun _ => true) w' := fun w' h' => hD g _ _ _ (fun j hj => by simpa using List.all_eq_true.1 hf j hj) h'
    have mono : ∀ (r : List Oper) (k : Nat) (a' : Act), wpG P .any l.toArray (CN (F g)) k0 (val g) (fun s => ∀ W, s.run P W = .ok (.enter f av) W) (fun a' => ∀ w', F g (fun _ => true) w' → Q .normal a' w') r k a' → wpG P .any l.toArray (CN (F g)) k0 (val g) (fun s => ∀ W, s.run P W = .ok (.enter f av) W) (fun a' => ∀ w', CN (F g) (setAll l.length 0 (Array.replicate l.length false)) w' → Q .normal a' w') r k a' := by
      intro r
      induction r with
      | nil => intro k a' h0 w' h'; exact h0 w' (e2 w' h')
      | cons o r ih => intro k a' h0; obtain ⟨v, h1, h2⟩ := h0; exact ⟨v, h1, ih _ _ h2⟩
    have := wpAnyG_lex (C := CN (F g)) (md := .any) (k0 := k0) (x := val g) (T := fun s => ∀ W, s.run P W = .ok (.enter f av) W) (Q := fun listed a' => ∀ w', CN (F g) listed w' → Q .normal a' w') hB.1 l 0 (Array.replicate l.length false) a (by simp) (by simpa using hB.2) (mono _ _ _ (h g hg))
    simpa using this
end Go.Proofs.Ytgjpohhafmkhcaa
namespace Go.Proofs.Ytgjpohhafmkhcaa
open Go.RowKit L02 L13 L18 L20
theorem run_lit0 {P : Program} {t e : TypeId} (W : World) (ht : P.underlying t = some (.slice e)) (hi : (P.info? e).isSome = true) : (Instr.buildSlice t 0 #[]).run P W = .ok (.slice (some ⟨W.heap.size, 0, none⟩) 0 0) (W.alloc (.cells #[] e)) := by
  obtain ⟨i, hi'⟩ := Option.isSome_iff_exists.1 hi
  simp [Instr.buildSlice, run_underlying ht, sizeOf, typeInfo, hi', go_sem]
set_option maxRecDepth 100000 in
set_option maxHeartbeats 1000000 in
theorem CloneW_rd (x : Value) (n : Nat) (xs : List Value) (hn : n ≤ 1000) (h1 : ∀ u ∈ xs, u.oneCell' = true) (w : World) (h : Rd w 1 x n xs) :
    Calls Try.prog 65 #[x] w fun e w' => ∃ y, e = .returned y ∧ w'.ownsRow w.heap.size 29 1 y n xs ∧ Below w.heap.size w w' := by
  have B : Below w.heap.size w w := Below.refl _ _
  have HX := Lib.hid h; have HU := Lib.hid h1
  obtain ⟨A, c, rfl, hc, _, hl, hA, _⟩ := h
  rcases A with _ | ad
  · have hc0 := hA rfl
    subst hc0
    obtain rfl : n = 0 := by omega
    obtain rfl : xs = [] := List.eq_nil_of_length_eq_zero (by simpa using hl)
    clear hl hA hc
    have q : ∀ W, (binOp .eql 70 (.slice none 0 0) (.slice none 0 0)).run Try.prog W = .ok (.bool true) W := fun W => Lib.run_eql_slice_nil W _ _ _ _ _ _ _ Try.underlying70
    go_enter Try.func65, Try.ntmps65
    go_wp2
    go_ret
    exact ⟨_, rfl, World.ownsRow_nil _ _ _ _, B⟩
  · clear hl hA hc
    have q : ∀ W, (binOp .eql 70 (.slice (some ad) n c) (.slice none 0 0)).run Try.prog W = .ok (.bool false) W := fun W => Lib.run_eql_slice_nil W _ _ _ _ _ _ _ Try.underlying70
    go_enter Try.func65, Try.ntmps65
    go_wp2_with (at_builtin; refine wpList_append (by rfl) rfl rfl rfl Try.underlying70 info_u64 rfl (by omega) (by exact lit0_own (Nat.le_refl _)) (by exact HX.out.alloc _) HU.out (by omega) (by omega) (by exact B.alloc B.size _) (Nat.le_refl _) ?_; intro v1 w3 o3 B3 g3; clear g3)
    go_ret
    exact ⟨_, rfl, by simpa using o3, B3⟩
set_option maxRecDepth 100000 in
set_option maxHeartbeats 1000000 in
theorem CloneB_rd (x : Value) (n : Nat) (xs : List Value) (hn : n ≤ 1000) (h1 : ∀ u ∈ xs, u.oneCell' = true) (w : World) (h : Rd w 1 x n xs) :
    Calls Try.prog 64 #[x] w fun e w' => ∃ y, e = .returned y ∧ w'.ownsRow w.heap.size 5 1 y n xs ∧ Below w.heap.size w w' := by
  have B : Below w.heap.size w w := Below.refl _ _
  have HX := Lib.hid h; have HU := Lib.hid h1
  obtain ⟨A, c, rfl, hc, _, hl, hA, _⟩ := h
  rcases A with _ | ad
  · have hc0 := hA rfl
    subst hc0
    obtain rfl : n = 0 := by omega
    obtain rfl : xs = [] := List.eq_nil_of_length_eq_zero (by simpa using hl)
    clear hl hA hc
    have q : ∀ W, (binOp .eql 74 (.slice none 0 0) (.slice none 0 0)).run Try.prog W = .ok (.bool true) W := fun W => Lib.run_eql_slice_nil W _ _ _ _ _ _ _ Try.underlying74
    go_enter Try.func64, Try.ntmps64
    go_wp2
    go_ret
    exact ⟨_, rfl, World.ownsRow_nil _ _ _ _, B⟩
  · clear hl hA hc
    have q : ∀ W, (binOp .eql 74 (.slice (some ad) n c) (.slice none 0 0)).run Try.prog W = .ok (.bool false) W := fun W => Lib.run_eql_slice_nil W _ _ _ _ _ _ _ Try.underlying74
    go_enter Try.func64, Try.ntmps64
    go_wp2_with (at_builtin; refine wpList_append (by rfl) rfl rfl rfl Try.underlying74 info_u8 rfl (by omega) (by exact lit0_own (Nat.le_refl _)) (by exact HX.out.alloc _) HU.out (by omega) (by omega) (by exact B.alloc B.size _) (Nat.le_refl _) ?_; intro v1 w3 o3 B3 g3; clear g3)
    go_ret
    exact ⟨_, rfl, by simpa using o3, B3⟩
set_option maxRecDepth 100000 in
set_option maxHeartbeats 1000000 in
theorem CloneS_rd (x : Value) (n : Nat) (xs : List Value) (hn : n ≤ 1000) (h1 : ∀ u ∈ xs, u.oneCell' = true) (w : World) (h : Rd w 3 x n xs) :
    Calls Try.prog 63 #[x] w fun e w' => ∃ y, e = .returned y ∧ w'.ownsRow w.heap.size 67 3 y n xs ∧ Below w.heap.size w w' := by
  have B : Below w.heap.size w w := Below.refl _ _
  have HX := Lib.hid h; have HU := Lib.hid h1
  obtain ⟨A, c, rfl, hc, _, hl, hA, _⟩ := h
  rcases A with _ | ad
  · have hc0 := hA rfl
    subst hc0
    obtain rfl : n = 0 := by omega
    obtain rfl : xs = [] := List.eq_nil_of_length_eq_zero (by simpa using hl)
    clear hl hA hc
    have q : ∀ W, (binOp .eql 24 (.slice none 0 0) (.slice none 0 0)).run Try.prog W = .ok (.bool true) W := fun W => Lib.run_eql_slice_nil W _ _ _ _ _ _ _ Try.underlying24
    go_enter Try.func63, Try.ntmps63
    go_wp2
    go_ret
    exact ⟨_, rfl, World.ownsRow_nil _ _ _ _, B⟩
  · clear hl hA hc
    have q : ∀ W, (binOp .eql 24 (.slice (some ad) n c) (.slice none 0 0)).run Try.prog W = .ok (.bool false) W := fun W => Lib.run_eql_slice_nil W _ _ _ _ _ _ _ Try.underlying24
    go_enter Try.func63, Try.ntmps63
    go_wp2_with (at_builtin; refine wpList_append (by rfl) rfl rfl rfl Try.underlying24 info_slot rfl (by omega) (by exact lit0_own (Nat.le_refl _)) (by exact HX.out.alloc _) HU.out (by omega) (by omega) (by exact B.alloc B.size _) (Nat.le_refl _) ?_; intro v1 w3 o3 B3 g3; clear g3)
    go_ret
    exact ⟨_, rfl, by simpa using o3, B3⟩
theorem CloneW_any (x : Value) (l : List UInt64) (hn : l.length ≤ 1000) (w : World) (h : Words w x l) :
    Calls Try.prog 65 #[x] w fun e w' => ∃ y, e = .returned y ∧ OwnW w' w.heap.size 29 y l ∧ Below w.heap.size w w' := CloneW_rd x _ _ hn (one_u64s l) w h
theorem CloneB_any (x : Value) (l : List UInt8) (hn : l.length ≤ 1000) (w : World) (h : Byts w x l) :
    Calls Try.prog 64 #[x] w fun e w' => ∃ y, e = .returned y ∧ OwnB w' w.heap.size 5 y l ∧ Below w.heap.size w w' := CloneB_rd x _ _ hn (one_u8s l) w h
theorem CloneS_any (x : Value) (l : List Sl) (hn : l.length ≤ 1000) (w : World) (h : Slots w x l) :
    Calls Try.prog 63 #[x] w fun e w' => ∃ y, e = .returned y ∧ OwnS w' w.heap.size 67 y l ∧ Below w.heap.size w w' := CloneS_rd x _ _ hn (tabL_one l) w h
end Go.Proofs.Ytgjpohhafmkhcaa
namespace Go.Proofs.Ytgjpohhafmkhcaa
open Go.RowKit L02 L13 L18 L20
def Small (m : Mo) : Prop := m.types.length ≤ 20 ∧ m.objs.length ≤ 962 ∧ m.slots.length ≤ 30 ∧ (∀ t ∈ m.types, t.length ≤ 20) ∧ ∀ o ∈ m.objs, o.fs.length ≤ 20
theorem small_of {m : Mo} (h : ¬ Great m) (h2 : m.objs.length < 960 ∨ m.objs.length ≤ 962) : Small m := by
  unfold Great at h
  refine ⟨by omega, by omega, by omega, fun t ht => ?_, fun o ho => ?_⟩
  · exact Nat.le_of_not_lt fun hl => h (.inr (.inr (.inr (.inr (.inl ⟨t, ht, hl⟩)))))
  · exact Nat.le_of_not_lt fun hl => h (.inr (.inr (.inr (.inr (.inr ⟨o, ho, hl⟩)))))
theorem small_chk {m : Mo} (h : chk m = 0) : Small m := by
  obtain ⟨h1, h2, h3, h4, h5, h6⟩ := chk_ok h
  have ht : ∀ t ∈ m.types, t.length ≤ 8 := fun t ht => (kErr_ok (h4 t ht)).1
  refine ⟨by omega, by omega, by omega, fun t hh => by have := ht t hh; omega, fun o ho => ?_⟩
  have ho' := h5 o ho
  have hty : o.ty.toNat < m.types.length := by have := ho'.1; omega
  have : ty m.types o ∈ m.types := by
    rw [ty, List.getD_eq_getElem?_getD, List.getElem?_eq_getElem hty]
    exact List.getElem_mem hty
  have := ht _ this
  have := ho'.2.1
  omega
theorem grown_set (w : World) (p : Addr) (u : Value) : w.grownBy (w.setCell p u) (some p.block) :=
  ⟨rfl, rfl, rfl, by simp [World.setCell], fun k hk hne => Below.heap_setCell w p u k (fun e => hne (by rw [e]))⟩
theorem own_not_bx {w : World} {B e sz n p : Nat} {v : Value} {xs : List Value} {t : TypeId} {cs : Array Value} (h : w.ownsRow B e sz v n xs) (hg : Bx w p t cs) (hne : e ≠ t) : v.ownBlock = none ∨ v.ownBlock ≠ some p := by
  rcases h.2 with ⟨rfl, _⟩ | ⟨g, cap, cur, rfl, _, hgg, _⟩
  · exact .inl rfl
  · refine .inr ?_
    intro he
    simp [Value.ownBlock] at he
    subst he
    rw [Bx, hgg] at hg
    injection hg with hg
    injection hg with _ h2 _
    exact hne h2
theorem own_set {w : World} {B e sz n p i : Nat} {v u : Value} {xs : List Value} {t : TypeId} {cs : Array Value} (h : w.ownsRow B e sz v n xs) (hg : Bx w p t cs) (hne : e ≠ t) : (w.setCell ⟨p, i, none⟩ u).ownsRow B e sz v n xs :=
  World.ownsRow.kept h (grown_set w ⟨p, i, none⟩ u) (own_not_bx h hg hne)
theorem OwnT.set {w : World} {B p i : Nat} {v u : Value} {L : List (List UInt8)} {t : TypeId} {cs : Array Value} (h : OwnT w B v L) (hg : Bx w p t cs) (h1 : 74 ≠ t) (h2 : 5 ≠ t) : OwnT (w.setCell ⟨p, i, none⟩ u) B v L := by
  obtain ⟨vs, a1, a2, a4⟩ := h; exact ⟨vs, a1, own_set a2 hg h1, fun i x l h5 h6 => own_set (a4 i x l h5 h6) hg h2⟩
theorem OwnO.set {w : World} {B p i : Nat} {v u : Value} {L : List Ob} {t : TypeId} {cs : Array Value} (h : OwnO w B v L) (hg : Bx w p t cs) (h1 : 72 ≠ t) (h2 : 29 ≠ t) : OwnO (w.setCell ⟨p, i, none⟩ u) B v L := by
  obtain ⟨vs, a1, a2, a4, a5⟩ := h; exact ⟨vs, a1, own_set a2 hg h1, fun i x l h5 h6 => own_set (a4 i x l h5 h6) hg h2, a5⟩
/-- one more object: xs the slices of fields, x the new one; the row was appended to. -/
theorem OwnO.snoc {w w' : World} {base n : Nat} {v v' x : Value} {L : List Ob} {o : Ob} {vs : List Value} (h1 : vs.length = L.length) (ho0 : w.ownsRow base 72 2 v L.length (obC L vs)) (ho : w'.ownsRow base 72 2 v' n (obC L vs ++ [i64 o.ty, x]))
    (h4 : ∀ (i : Nat) x l, vs[i]? = some x → L[i]? = some l → OwnW w base 29 x l.fs) (h5 : ∀ (i j : Nat) x y, i ≠ j → vs[i]? = some x → vs[j]? = some y → x.ownBlock = none ∨ x.ownBlock ≠ y.ownBlock)
    (hx : OwnW w base 29 x o.fs) (hap : ∀ (i : Nat) y, vs[i]? = some y → (x.ownBlock = none ∨ x.ownBlock ≠ y.ownBlock) ∧ (y.ownBlock = none ∨ y.ownBlock ≠ x.ownBlock)) (hg : w.grownBy w' v.ownBlock) : OwnO w' base v' (L ++ [o]) := by
  have hn : n = (L ++ [o]).length := by have := ho.1; rw [List.length_append, obC_len h1] at this; simp at this ⊢; omega
  subst hn
  have keep : ∀ y m, OwnW w base 29 y m → OwnW w' base 29 y m := fun y m hy => World.ownsRow.kept hy hg (own_unlike hy ho0 (by decide))
  have idx : ∀ i, i ≥ vs.length → ∀ y, (vs ++ [x])[i]? = some y → i = vs.length ∧ y = x := by
    intro i hi y hy
    rw [List.getElem?_append_right hi] at hy
    have h0 : i - vs.length = 0 := by
      rcases Nat.eq_zero_or_pos (i - vs.length) with h | h
      · exact h
      · rw [List.getElem?_eq_none (by simp; omega)] at hy; cases hy
    rw [h0] at hy
    simp at hy
    exact ⟨by omega, hy.symm⟩
  refine ⟨vs ++ [x], by simp [h1], by rw [obC_snoc h1]; exact ho, fun i y l hy hl => ?_, fun i j y z hij hy hz => ?_⟩
  · by_cases hi : i < vs.length
    · rw [List.getElem?_append_left hi] at hy
      rw [List.getElem?_append_left (by omega)] at hl
      exact keep _ _ (h4 i y l hy hl)
    · obtain ⟨rfl, rfl⟩ := idx i (by omega) y hy
      rw [List.getElem?_append_right (by omega), h1] at hl
      simp at hl; subst hl
      exact keep _ _ hx
  · by_cases hi : i < vs.length
    · rw [List.getElem?_append_left hi] at hy
      by_cases hj : j < vs.length
      · rw [List.getElem?_append_left hj] at hz
        exact h5 i j y z hij hy hz
      · obtain ⟨_, rfl⟩ := idx j (by omega) z hz
        exact (hap i y hy).2
    · obtain ⟨e1, rfl⟩ := idx i (by omega) y hy
      by_cases hj : j < vs.length
      · rw [List.getElem?_append_left hj] at hz
        exact (hap j z hz).1
      · obtain ⟨e2, rfl⟩ := idx j (by omega) z hz
        omega
theorem Bx.grown {w w' : World} {g : Nat} {t : TypeId} {cs : Array Value} {row : Option Nat} (h : Bx w g t cs) (hg : w.grownBy w' row) (hne : row = none ∨ row ≠ some g) : Bx w' g t cs := by
  have hl := h.lt
  unfold Bx at *
  rw [hg.block g hl (by rcases hne with rfl | h; · simp
                        · exact fun e => h e.symm)]
  exact h
theorem own_form' {w : World} {B e sz n : Nat} {v : Value} {xs : List Value} (h : w.ownsRow B e sz v n xs) : ∃ A c, v = .slice A n c := by
  obtain ⟨A, c, e, _⟩ := Rd.of_own h; exact ⟨A, c, e⟩
/-- what one more copied type leaves of memory -/
theorem copyT_mem {w wr W1 W3 : World} {B0 p a b n : Nat} {xt y v o ys : Value} {vs : List Value} {L : List (List UInt8)} {t : List UInt8} {S : List Sl} {cs1 cs2 : Array Value}
    (z1 : vs.length = L.length) (z2 : wr.ownsRow B0 74 1 xt L.length vs) (z4 : ∀ (i : Nat) x l, vs[i]? = some x → L[i]? = some l → OwnB wr B0 5 x l)
    (oy : OwnB W1 wr.heap.size 5 y t) (b1 : Below wr.heap.size wr W1) (hown : W3.ownsRow B0 74 1 v n (vs ++ [y])) (hgr : (W1.alloc (.cells #[y] 74)).grownBy W3 xt.ownBlock)
    (q1 : Bx wr a 26 cs1) (q2 : Bx wr b 26 cs2) (q3 : Bx wr p 26 #[xt, o, ys]) (oS : OwnS wr B0 67 ys S) (B : Below B0 w wr) (hB : B0 ≤ wr.heap.size) (ha : a ≠ p) (hb : b ≠ p) (hp : B0 ≤ p) (hB0 : B0 ≤ w.heap.size) :
    (W3.cell? ⟨p, 0, none⟩ = some xt ∧ W3.frozen? ⟨p, 0, none⟩ = false) ∧ OwnT (W3.setCell ⟨p, 0, none⟩ v) B0 v (L ++ [t]) ∧ Bx (W3.setCell ⟨p, 0, none⟩ v) a 26 cs1 ∧ Bx (W3.setCell ⟨p, 0, none⟩ v) b 26 cs2 ∧ Bx (W3.setCell ⟨p, 0, none⟩ v) p 26 #[v, o, ys] ∧
      OwnS (W3.setCell ⟨p, 0, none⟩ v) B0 67 ys S ∧ Below B0 w (W3.setCell ⟨p, 0, none⟩ v) := by
  have b2 : Below wr.heap.size wr (W1.alloc (.cells #[y] 74)) := b1.alloc b1.size _
  have z2' := own_below z2 b2
  have nx := fun {g : Nat} {cs : Array Value} (hq : Bx (W1.alloc (.cells #[y] 74)) g 26 cs) => Bx.grown hq hgr (own_not_bx z2' hq (by decide))
  have r1 := nx (q1.below b2); have r2 := nx (q2.below b2); have r3 := nx (q3.below b2)
  have oS' : OwnS W3 B0 67 ys S := World.ownsRow.kept (own_below oS b2) hgr (own_unlike (own_below oS b2) z2' (by decide))
  have oT : OwnT W3 B0 v (L ++ [t]) := OwnT.snoc z1 z2' hown (fun i x l h5 h6 => OwnB.below (z4 i x l h5 h6) b2) (OwnB.below (own_mono oy hB) ((Below.refl _ W1).alloc (Nat.le_refl _) _)) hgr
  have B3 : Below B0 w W3 := (B.trans (b2.mono hB)).grown hgr (Nat.le_trans hB b2.size) (fun k hk => (z2'.lt k hk).1)
  refine ⟨⟨r3.cell 0, r3.free 0⟩, oT.set r3 (by decide) (by decide), r1.far (p := ⟨p, 0, none⟩) ha _, r2.far (p := ⟨p, 0, none⟩) hb _, ?_, own_set oS' r3 (by decide), B3.setCell (p := ⟨p, 0, none⟩) hp _⟩
  have := r3.set (i := 0) v
  simpa using this
theorem OwnT.kept {w w' : World} {B B2 e n sz : Nat} {v a : Value} {L : List (List UInt8)} {xs : List Value} (h : OwnT w B v L) (ha : w.ownsRow B2 e sz a n xs) (hg : w.grownBy w' a.ownBlock) (h1 : 74 ≠ e) (h2 : 5 ≠ e) : OwnT w' B v L := by
  obtain ⟨vs, a1, a2, a4⟩ := h
  exact ⟨vs, a1, World.ownsRow.kept a2 hg (own_unlike a2 ha h1), fun i x l h5 h6 => World.ownsRow.kept (a4 i x l h5 h6) hg (own_unlike (a4 i x l h5 h6) ha h2)⟩
/-- what one more copied object leaves of memory -/
theorem copyO_mem {w wr W1 W3 : World} {B0 p a b n : Nat} {ot y v xt ys : Value} {vs : List Value} {L : List Ob} {o : Ob} {S : List Sl} {T : List (List UInt8)} {cs1 cs2 : Array Value}
    (z1 : vs.length = L.length) (z2 : wr.ownsRow B0 72 2 ot L.length (obC L vs)) (z4 : ∀ (i : Nat) x l, vs[i]? = some x → L[i]? = some l → OwnW wr B0 29 x l.fs)
    (z5 : ∀ (i j : Nat) x y, i ≠ j → vs[i]? = some x → vs[j]? = some y → x.ownBlock = none ∨ x.ownBlock ≠ y.ownBlock)
    (oy : OwnW W1 wr.heap.size 29 y o.fs) (b1 : Below wr.heap.size wr W1) (hown : W3.ownsRow B0 72 2 v n (obC L vs ++ [i64 o.ty, y])) (hgr : (W1.alloc (.cells #[i64 o.ty, y] 72)).grownBy W3 ot.ownBlock)
    (q1 : Bx wr a 26 cs1) (q2 : Bx wr b 26 cs2) (q3 : Bx wr p 26 #[xt, ot, ys]) (oT : OwnT wr B0 xt T) (oS : OwnS wr B0 67 ys S) (B : Below B0 w wr) (hB : B0 ≤ wr.heap.size) (ha : a ≠ p) (hb : b ≠ p) (hp : B0 ≤ p) {q : Nat} {tq : TypeId} {cs4 : Array Value} (q4 : Bx wr q tq cs4) (hq : ot.ownBlock = none ∨ ot.ownBlock ≠ some q) (hqp : q ≠ p) :
    (W3.cell? ⟨p, 1, none⟩ = some ot ∧ W3.frozen? ⟨p, 1, none⟩ = false) ∧ OwnO (W3.setCell ⟨p, 1, none⟩ v) B0 v (L ++ [o]) ∧ Bx (W3.setCell ⟨p, 1, none⟩ v) a 26 cs1 ∧ Bx (W3.setCell ⟨p, 1, none⟩ v) b 26 cs2 ∧ Bx (W3.setCell ⟨p, 1, none⟩ v) p 26 #[xt, v, ys] ∧
      OwnT (W3.setCell ⟨p, 1, none⟩ v) B0 xt T ∧ OwnS (W3.setCell ⟨p, 1, none⟩ v) B0 67 ys S ∧ Below B0 w (W3.setCell ⟨p, 1, none⟩ v) ∧ Bx W3 q tq cs4 ∧ Bx (W3.setCell ⟨p, 1, none⟩ v) q tq cs4 := by
  have b2 : Below wr.heap.size wr (W1.alloc (.cells #[i64 o.ty, y] 72)) := b1.alloc b1.size _
  have z2' := own_below z2 b2
  have nx := fun {g : Nat} {cs : Array Value} (hq : Bx (W1.alloc (.cells #[i64 o.ty, y] 72)) g 26 cs) => Bx.grown hq hgr (own_not_bx z2' hq (by decide))
  have r1 := nx (q1.below b2); have r2 := nx (q2.below b2); have r3 := nx (q3.below b2)
  have oS' : OwnS W3 B0 67 ys S := World.ownsRow.kept (own_below oS b2) hgr (own_unlike (own_below oS b2) z2' (by decide))
  have oT' : OwnT W3 B0 xt T := (oT.below b2).kept z2' hgr (by decide) (by decide)
  have oO : OwnO W3 B0 v (L ++ [o]) := OwnO.snoc z1 z2' hown (fun i x l h5 h6 => OwnW.below (z4 i x l h5 h6) b2) z5 (OwnW.below (own_mono oy hB) ((Below.refl _ W1).alloc (Nat.le_refl _) _))
    (fun i x hx => own_ne (z4 i x _ hx (List.getElem?_eq_getElem (by have := (List.getElem?_eq_some_iff.1 hx).1; omega))) oy (Nat.le_refl _)) hgr
  have B3 : Below B0 w W3 := (B.trans (b2.mono hB)).grown hgr (Nat.le_trans hB b2.size) (fun k hk => (z2'.lt k hk).1)
  refine ⟨⟨r3.cell 1, r3.free 1⟩, oO.set r3 (by decide) (by decide), r1.far (p := ⟨p, 1, none⟩) ha _, r2.far (p := ⟨p, 1, none⟩) hb _, ?_, oT'.set r3 (by decide) (by decide), own_set oS' r3 (by decide), B3.setCell (p := ⟨p, 1, none⟩) hp _, (q4.below b2).grown hgr hq, ((q4.below b2).grown hgr hq).far (p := ⟨p, 1, none⟩) hqp _⟩
  have := r3.set (i := 1) v
  simpa using this
/-- a literal of one object -/
theorem lit_obj {w : World} {ty : Int} {x : Value} : Rd (w.alloc (.cells #[i64 ty, x] 72)) 2 (.slice (some ⟨w.heap.size, 0, none⟩) 1 1) 1 [i64 ty, x] := lit_rdK (n := 1) (sz := 2) rfl (by omega)
theorem one_obj {ty : Int} {x : Value} (h : x.oneCell' = true) : ∀ u ∈ [i64 ty, x], u.oneCell' = true := by
  intro u hu
  rcases List.mem_cons.1 hu with rfl | hu
  · rfl
  · simp at hu; subst hu; exact h
theorem OwnM.set {w : World} {B p i : Nat} {tv ov sv u : Value} {m : Mo} {cs : Array Value} (h : OwnM w B 67 tv ov sv m) (hg : Bx w p 26 cs) : OwnM (w.setCell ⟨p, i, none⟩ u) B 67 tv ov sv m :=
  ⟨h.t.set hg (by decide) (by decide), h.o.set hg (by decide) (by decide), own_set h.s hg (by decide)⟩
/-- a model's three cells are stored elsewhere -/
theorem OwnM.set3 {w : World} {B p : Nat} {tv ov sv a b c : Value} {m : Mo} {cs : Array Value} (h : OwnM w B 67 tv ov sv m) (hg : Bx w p 26 cs) :
    OwnM (((w.setCell ⟨p, 0, none⟩ a).setCell ⟨p, 1, none⟩ b).setCell ⟨p, 2, none⟩ c) B 67 tv ov sv m :=
  ((h.set hg).set (hg.set a)).set ((hg.set a).set b)
end Go.Proofs.Ytgjpohhafmkhcaa
namespace Go.Proofs.Ytgjpohhafmkhcaa
open Go.RowKit L02 L13 L18 L20
structure GCopy where
  y : Value
  W1 : World
  v : Value
  W3 : World
theorem enter_CloneB (x : Value) (W : World) : (callFunc 64 (#[] ++ #[x] ++ #[])).run Try.prog W = .ok (.enter 64 #[x]) W := by
  simp [go_sem]
/-- the worlds of a round that copies one type -/
def wsT (w : World) (p : Nat) (g : GCopy) : Nat → World
  | 0 => w.drew
  | 1 => g.W1
  | 2 => g.W1.alloc (.cells #[g.y] 74)
  | 3 => g.W3
  | _ => g.W3.setCell ⟨p, 0, none⟩ g.v
theorem enter_CloneW (x : Value) (W : World) : (callFunc 65 (#[] ++ #[x] ++ #[])).run Try.prog W = .ok (.enter 65 #[x]) W := by
  simp [go_sem]
/-- the worlds of a round that copies one object -/
def wsO (w : World) (p : Nat) (ty : Int) (g : GCopy) : Nat → World
  | 0 => w.drew
  | 1 => g.W1
  | 2 => g.W1
  | 3 => g.W1.alloc (.cells #[i64 ty, g.y] 72)
  | 4 => g.W3
  | _ => g.W3.setCell ⟨p, 1, none⟩ g.v
set_option maxRecDepth 100000 in
set_option maxHeartbeats 4000000 in
theorem copied_any (tv ov sv : Value) (m : Mo) (hsm : Small m) (w : World) (h : Mod w tv ov sv m) :
    Calls Try.prog 49 #[.agg #[tv, ov, sv]] w fun e w' => ∃ tv' ov' sv', e = .returned (.agg #[tv', ov', sv']) ∧ OwnM w' w.heap.size 67 tv' ov' sv' m ∧ Below w.heap.size w w' := by
  have B : Below w.heap.size w w := Below.refl _ _
  have lt := h.t.len; have lo := h.o.len
  obtain ⟨NT, hNT⟩ : ∃ N, N = m.types.length := ⟨_, rfl⟩
  obtain ⟨NO, hNO⟩ : ∃ N, N = m.objs.length := ⟨_, rfl⟩
  rw [← hNT] at lt; rw [← hNO] at lo
  obtain ⟨s1, s2, s3, s4, s5⟩ := hsm
  have CS := Lib.hid (fun w h => CloneS_any sv m.slots (by omega) w h)
  have hNT20 : NT ≤ 20 := by omega
  have hNO962 : NO ≤ 962 := by omega
  have H := Lib.hid h; have HNT := Lib.hid hNT; have HNO := Lib.hid hNO; have S4 := Lib.hid s4; have S5 := Lib.hid s5
  clear h hNT hNO s4 s5 s1 s2 s3
  go_enter Try.func49, Try.ntmps49
  go_upto_region 1 with (fail)
  refine wp_gen (fun Wv => Bx Wv (w.heap.size) (26) (#[tv, ov, sv]) ∧ Bx Wv (w.heap.size + 1) (26) (#[.slice none 0 0, .slice none 0 0, .slice none 0 0]) ∧ Below w.heap.size w Wv) ⟨(((Bx.at_ (by simp)).alloc _)), ((Bx.at_ (by simp))), (((Below.refl _ w).alloc (by simp <;> omega) _).alloc (by simp <;> omega) _)⟩ ?_
  rintro wa1 ⟨g1, g2, b⟩
  replace B := B.trans (b.mono B.size); clear b
  have c_g1 := g1.cell; have f_g1 := g1.free; have a_g1 := fun o => (g1.alloc o).cell; have d_g1 := fun o o2 => ((g1.alloc o).alloc o2).cell; have e_g1 := fun o => (g1.alloc o).free
  have c_g2 := g2.cell; have f_g2 := g2.free; have a_g2 := fun o => (g2.alloc o).cell; have d_g2 := fun o o2 => ((g2.alloc o).alloc o2).cell; have e_g2 := fun o => (g2.alloc o).free
  have hz1 := B.size
  go_wp2_with fail
  refine (CS.out _ (H.out.s.below B)).mono ?_
  rintro e wa2 ⟨ys, rfl, oS, b⟩
  try clear c_g1 f_g1 a_g1 d_g1 e_g1
  replace g1 := g1.below b; have c_g1 := g1.cell; have f_g1 := g1.free; have a_g1 := fun o => (g1.alloc o).cell; have d_g1 := fun o o2 => ((g1.alloc o).alloc o2).cell; have e_g1 := fun o => (g1.alloc o).free; try clear c_g2 f_g2 a_g2 d_g2 e_g2
  replace g2 := g2.below b; have c_g2 := g2.cell; have f_g2 := g2.free; have a_g2 := fun o => (g2.alloc o).cell; have d_g2 := fun o o2 => ((g2.alloc o).alloc o2).cell; have e_g2 := fun o => (g2.alloc o).free; replace B := B.trans (b.mono B.size); clear b
  obtain ⟨yA, yn, yc, rfl⟩ : ∃ A n c, ys = .slice A n c := by obtain ⟨A, c, e⟩ := own_form' oS; exact ⟨A, _, c, e⟩
  have hq1 := g1.lt; have hq2 := g2.lt; have hp0 := B.size
  replace oS : OwnS _ w.heap.size 67 _ m.slots := own_mono oS hz1
  go_upto_region 2 with (fail)
  refine wp_gen (fun Wv => Bx Wv (wa2.heap.size) (26) (#[.slice none 0 0, .slice none 0 0, .slice yA yn yc]) ∧ Below wa2.heap.size wa2 Wv) ⟨((Bx.at_ (by simp))), ((Below.refl _ wa2).alloc (by simp <;> omega) _)⟩ ?_
  rintro wa3 ⟨g3, b⟩
  try clear c_g1 f_g1 a_g1 d_g1 e_g1
  replace g1 := g1.below b; have c_g1 := g1.cell; have f_g1 := g1.free; have a_g1 := fun o => (g1.alloc o).cell; have d_g1 := fun o o2 => ((g1.alloc o).alloc o2).cell; have e_g1 := fun o => (g1.alloc o).free; try clear c_g2 f_g2 a_g2 d_g2 e_g2
  replace g2 := g2.below b; have c_g2 := g2.cell; have f_g2 := g2.free; have a_g2 := fun o => (g2.alloc o).cell; have d_g2 := fun o o2 => ((g2.alloc o).alloc o2).cell; have e_g2 := fun o => (g2.alloc o).free; replace oS := oS.below b; replace B := B.trans (b.mono B.size); clear b
  have c_g3 := g3.cell; have f_g3 := g3.free; have a_g3 := fun o => (g3.alloc o).cell; have d_g3 := fun o o2 => ((g3.alloc o).alloc o2).cell; have e_g3 := fun o => (g3.alloc o).free
  generalize wa2.heap.size = p at *
  have HB := Lib.hid B; have HG := Lib.hid (And.intro g1 (And.intro g2 (And.intro g3 oS)))
  clear B g1 g2 g3 oS c_g1 c_g2 f_g1 f_g2 a_g1 a_g2 d_g1 d_g2 e_g1 e_g2 c_g3 f_g3 a_g3 d_g3 e_g3
  have hwa := HG.out.1.cell
  go_wp2
  clear hwa
  go_loopg [15] NT (fun g i wr => ∃ j : Nat, j ≤ NT ∧ g = NT - j ∧ i = .int .i64 j ∧ Hid (∃ xt, OwnT wr w.heap.size xt (m.types.take j) ∧ Bx wr w.heap.size 26 #[tv, ov, sv] ∧ Bx wr (w.heap.size + 1) 26 #[.slice none 0 0, .slice none 0 0, .slice none 0 0] ∧ Bx wr p 26 #[xt, .slice none 0 0, .slice yA yn yc] ∧ OwnS wr w.heap.size 67 (.slice yA yn yc) m.slots ∧ Below w.heap.size w wr))
  case atStart => exact ⟨0, by omega, by omega, rfl, Lib.hid ⟨_, OwnT.nil _ _, HG.out.1, HG.out.2.1, HG.out.2.2.1, HG.out.2.2.2, HB.out⟩⟩
  case round =>
    clear HG HB
    obtain ⟨j, hj, rfl, rfl, hh⟩ := hrel
    by_cases hlt : j < NT
    · obtain ⟨xt, oT, q1, q2, q3, oS, B⟩ := hh.out
      obtain ⟨ad, x, t, ix, m0, ht, hby⟩ := (H.out.t.below B).at_ (k := j) (by have := HNT.out; omega)
      have htl : t.length ≤ 20 := S4.out t (List.mem_of_getElem? ht.out)
      have CB := Lib.hid (fun w h => CloneB_any x t (by omega) w h)
      obtain ⟨vs, z1, z2, z4⟩ := oT
      have hB := B.size
      have htk : (m.types.take j).length = j := by rw [List.length_take]; have := HNT.out; omega
      go_upto_region 5 with (fail)
      have HT := Lib.hid ht; have HQ := Lib.hid (And.intro q1 (And.intro q2 (And.intro q3 (And.intro oS (And.intro B (And.intro z1 (And.intro z2 z4))))))) 
      have c3 := q3.cell
      refine wp_region_G (val := GCopy.y) (V := fun g => OwnB g.W1 wr.heap.size 5 g.y t ∧ Below wr.heap.size wr g.W1 ∧ (Builtin.append_ #[22, 22] 22 #[xt, .slice (some ⟨g.W1.heap.size, 0, none⟩) 1 1]).run Try.prog (g.W1.alloc (.cells #[g.y] 74)) = .ok g.v g.W3 ∧
          g.W3.ownsRow w.heap.size 74 1 g.v (j + 1) (vs ++ [g.y]) ∧ (g.W1.alloc (.cells #[g.y] 74)).grownBy g.W3 xt.ownBlock)
        (F := fun g => FL [3, 4, 5, 7] (wsT wr p g) 1 2) [1, 3, 4, 5, 7] 3 ⟨undef, wr, undef, wr⟩ 64 #[x] (fun g => FL.dep) (by kernel_rfl) (by kernel_rfl) (by kernel_rfl) (fun g g' φ W hφ hF => FL.agree (Ws := wsT wr p g) (Ws' := wsT wr p g') (k0 := 3) rfl rfl hφ hF) FL.start (by decide) ?_ ?_
      · intro φ W hφ hF
        obtain ⟨rfl, _⟩ := FL.step (i := 0) rfl (by decide) hF hφ (by intro p hp; omega) (by omega)
        refine (CB.out wr.drew hby.out).mono ?_
        rintro e W1 ⟨y, rfl, oy, b1⟩
        have b1' : Below wr.heap.size wr W1 := (Below.refl _ wr).drew.trans b1
        have hz := b1'.size
        obtain ⟨v, W3, r1, r2, r3⟩ := run_append_rd (P := Try.prog) (w := W1.alloc (.cells #[y] 74)) (ty := 22) (B := w.heap.size) Try.underlying22 info_bytes rfl (by omega) (own_below z2 (b1'.alloc hz _)) lit_rd (by intro u hu; simp at hu; subst hu; exact (OwnB.rd oy).oneCell) (by omega) (by omega) (by simp; omega)
        rw [htk] at r2
        have hF' := FL.agree (Ws := wsT wr p ⟨undef, wr, undef, wr⟩) (Ws' := wsT wr p ⟨y, W1, v, W3⟩) (k0 := 3) rfl rfl hφ hF
        exact ⟨⟨y, W1, v, W3⟩, ⟨oy, b1', r1, r2, r3⟩, rfl, (FL.step (i := 0) rfl (by decide) hF' hφ (by intro p hp; omega) (by omega)).2⟩
      · rintro ⟨y, W1, v, W3⟩ ⟨oy, b1, r1, r2, r3⟩
        dsimp only at oy b1 r1 r2 r3 ⊢
        obtain ⟨q1, q2, q3, oS, B, z1, z2, z4⟩ := HQ.out
        have MM := Lib.hid (copyT_mem (t := t) (a := w.heap.size) (b := w.heap.size + 1) (p := p) z1 z2 z4 oy b1 r2 r3 q1 q2 q3 oS B hB (by omega) (by omega) (by omega) (Nat.le_refl _))
        obtain ⟨yyA, yyn, yyc, rfl⟩ : ∃ A n c, y = .slice A n c := by obtain ⟨A, c, e⟩ := own_form' oy; exact ⟨A, _, c, e⟩
        obtain ⟨vA, vn, vc, rfl⟩ : ∃ A n c, v = .slice A n c := by obtain ⟨A, c, e⟩ := own_form' r2; exact ⟨A, _, c, e⟩
        have b1c := (q3.below b1).cell 0; have b2c := ((q3.below b1).alloc (.cells #[.slice yyA yyn yyc] 74)).cell 0
        have b0c := (q3.below (Below.refl _ wr).drew).cell 0
        haveI : Nonempty (FXN (FL [3, 4, 5, 7] (wsT wr p ⟨.slice yyA yyn yyc, W1, .slice vA vn vc, W3⟩) 1 2)) := ⟨⟨_, _, FL.start⟩⟩
        refine wpG_read FL.dep rfl (by decide) (by decide) ?_; go_big_quiet_step (fail); refine wpQuiet_nil ?_
        refine wpG_step FL.dep (by decide) rfl (by rfl) (v := xt) [] rfl (fun f W hF h0 _ => ?_) ?_
        · obtain ⟨⟨d, hd, hd2, rfl⟩, hF'⟩ := FL.read (by decide) hF h0
          refine ⟨_, ?_, hF'⟩
          have hc : (wsT wr p ⟨.slice yyA yyn yyc, W1, .slice vA vn vc, W3⟩ d).cell? ⟨p, 0, none⟩ = some xt := by
            rcases d with _ | _ | _ | d
            · exact b0c
            · exact b1c
            · exact b2c
            · omega
          simp [execOp, go_sem, hc]
        simp only [Act.put, List.setIfInBounds_toArray, List.set_cons_zero, List.set_cons_succ]
        refine wpG_read FL.dep rfl (by decide) (by decide) ?_; go_big_quiet_step (fail); refine wpQuiet_nil ?_
        refine wpG_call #[x] rfl (by simp [Act.eval]) (enter_CloneB x) ?_
        simp only [Act.put, List.setIfInBounds_toArray, List.set_cons_zero, List.set_cons_succ]
        refine wpG_step FL.dep (by decide) rfl (by rfl) (v := .slice (some ⟨W1.heap.size, 0, none⟩) 1 1) [3] (by kernel_rfl) (fun f W hF h0 h1 => ?_) ?_
        · obtain ⟨rfl, h2⟩ := FL.step (i := 1) rfl (by decide) hF h0 (FL.prev (p := 0) (q := 3) rfl (h1 3 (by simp))) (by omega)
          refine ⟨_, ?_, h2⟩
          simp [execOp, go_sem, wsT]
        simp only [Act.put, List.setIfInBounds_toArray, List.set_cons_zero, List.set_cons_succ]
        refine wpG_step FL.dep (by decide) rfl (by rfl) (v := .slice vA vn vc) [4, 1] (by kernel_rfl) (fun f W hF h0 h1 => ?_) ?_
        · obtain ⟨rfl, h2⟩ := FL.step (i := 2) rfl (by decide) hF h0 (FL.prev (p := 1) (q := 4) rfl (h1 4 (by simp))) (fun _ => h1 1 (by simp))
          exact ⟨_, by simp [execOp, resolve, invoke, builtin, Act.eval, wsT, r1], h2⟩
        simp only [Act.put, List.setIfInBounds_toArray, List.set_cons_zero, List.set_cons_succ]
        refine wpG_read FL.dep rfl (by decide) (by decide) ?_; go_big_quiet_step (fail); refine wpQuiet_nil ?_
        refine wpG_store FL.dep (by decide) rfl 22 (.tmp 25) (.tmp 24) rfl (by rfl) (p := .pointer (some ⟨p, 0, none⟩)) (u := .slice vA vn vc) (by rfl) (by rfl) [5] (by kernel_rfl) (fun f W hF h0 h1 => ?_) ?_
        · obtain ⟨rfl, h2⟩ := FL.step (i := 3) rfl (by decide) hF h0 (FL.prev (p := 2) (q := 5) rfl (h1 5 (by simp))) (by omega)
          refine ⟨_, ?_, h2⟩
          have hc := MM.out.1.1; have hf := MM.out.1.2
          simp [go_sem, wsT, hc, hf]
        refine wpG_nil ?_
        intro w' hw'
        obtain rfl := FL.done hw'
        have HM := Lib.hid (MM.out.2)
        clear this MM HQ q1 q2 q3 oS B z1 z2 z4 b1c b2c b0c hw' r1 r2 r3 oy b1 c3
        go_wp2
        go_roundg (NT - (j + 1))
        case measure => omega
        case rel =>
          refine ⟨j + 1, by omega, rfl, by go_num, Lib.hid ⟨_, ?_, HM.out.2⟩⟩
          have := HM.out.1
          rwa [List.take_add_one, HT.out.out]
    · obtain rfl : j = NT := by omega
      obtain ⟨xt, oT, q1, q2, q3, oS, B⟩ := hh.out
      rw [List.take_of_length_le (by have := HNT.out; omega)] at oT
      clear hh
      have hwa := q1.cell
      have HG := Lib.hid (And.intro q1 (And.intro q2 (And.intro q3 (And.intro oT oS)))); have HB := Lib.hid B
      clear q1 q2 q3 oT oS B
      go_wp2
      clear hwa
      go_loopg [30] NO (fun g i wr => ∃ k : Nat, k ≤ NO ∧ g = NO - k ∧ i = .int .i64 k ∧ Hid (∃ ot, OwnO wr w.heap.size ot (m.objs.take k) ∧ Bx wr w.heap.size 26 #[tv, ov, sv] ∧ Bx wr (w.heap.size + 1) 26 #[.slice none 0 0, .slice none 0 0, .slice none 0 0] ∧ Bx wr p 26 #[xt, ot, .slice yA yn yc] ∧ OwnT wr w.heap.size xt m.types ∧ OwnS wr w.heap.size 67 (.slice yA yn yc) m.slots ∧ Below w.heap.size w wr))
      case atStart => exact ⟨0, by omega, by omega, rfl, Lib.hid ⟨_, OwnO.nil _ _, HG.out.1, HG.out.2.1, HG.out.2.2.1, HG.out.2.2.2.1, HG.out.2.2.2.2, HB.out⟩⟩
      case round =>
        clear HG HB
        obtain ⟨k, hk, rfl, rfl, hh⟩ := hrel
        by_cases hltk : k < NO
        · obtain ⟨ot, oO, q1, q2, q3, oT, oS, B⟩ := hh.out
          obtain ⟨ob, oq, x, o, ix, m0, m1, ho, hx, hob⟩ := (H.out.o.below B).at_ (k := k) (by have := HNO.out; omega)
          have hol : o.fs.length ≤ 20 := S5.out o (List.mem_of_getElem? ho.out)
          have CW := Lib.hid (fun w h => CloneW_any x o.fs (by omega) w h)
          have hxx := hx.out
          have hlt0 : ot.ownBlock = none ∨ ot.ownBlock ≠ some wr.heap.size := by
            obtain ⟨vs, z1, z2, _⟩ := oO
            cases hob : ot.ownBlock with
            | none => exact .inl rfl
            | some g => have := (z2.lt g hob).2; exact .inr (by simp; omega)
          have hpl := q3.lt
          have htk : (m.objs.take k).length = k := by rw [List.length_take]; have := HNO.out; omega
          obtain ⟨xA, xn, xc, rfl⟩ : ∃ A n c, x = .slice A n c := by obtain ⟨A, c, e, _⟩ := hxx; exact ⟨A, _, c, e⟩
          clear hh hx
          go_upto_region 10 with (fail)
          refine wp_gen (fun Wv => Bx Wv (wr.heap.size) (72) (#[.int .i64 o.ty, .slice xA xn xc]) ∧ Below wr.heap.size wr Wv) ⟨((Bx.at_ (by simp))), ((Below.refl _ wr).alloc (by simp <;> omega) _)⟩ ?_
          rintro wa1 ⟨g4, b⟩
          replace q1 := q1.below b; replace q2 := q2.below b; replace q3 := q3.below b; replace oT := oT.below b; replace oS := oS.below b; replace oO := oO.below b; replace hxx := hxx.below b; replace B := B.trans (b.mono B.size); clear b
          have c_g4 := g4.cell; have f_g4 := g4.free; have a_g4 := fun o => (g4.alloc o).cell; have d_g4 := fun o o2 => ((g4.alloc o).alloc o2).cell; have e_g4 := fun o => (g4.alloc o).free
          clear m0 m1
          obtain ⟨vs, z1, z2, z4, z5⟩ := oO
          have hB := B.size
          have HT := Lib.hid ho; have HQ := Lib.hid (And.intro q1 (And.intro q2 (And.intro q3 (And.intro oT (And.intro oS (And.intro B (And.intro z1 (And.intro z2 (And.intro z4 z5)))))))))
          clear c_g4 f_g4 a_g4 d_g4 e_g4
          refine wp_region_G (val := GCopy.y) (V := fun g => OwnW g.W1 wa1.heap.size 29 g.y o.fs ∧ Below wa1.heap.size wa1 g.W1 ∧ (Builtin.append_ #[23, 23] 23 #[ot, .slice (some ⟨g.W1.heap.size, 0, none⟩) 1 1]).run Try.prog (g.W1.alloc (.cells #[i64 o.ty, g.y] 72)) = .ok g.v g.W3 ∧
              g.W3.ownsRow w.heap.size 72 2 g.v (k + 1) (obC (m.objs.take k) vs ++ [i64 o.ty, g.y]) ∧ (g.W1.alloc (.cells #[i64 o.ty, g.y] 72)).grownBy g.W3 ot.ownBlock)
            (F := fun g => FL [6, 7, 8, 9, 11] (wsO wa1 p o.ty g) 1 3) [1, 6, 7, 8, 9, 11] 6 ⟨undef, wr, undef, wr⟩ 65 #[.slice xA xn xc] (fun g => FL.dep) (by kernel_rfl) (by kernel_rfl) (by kernel_rfl) (fun g g' φ W hφ hF => FL.agree (Ws := wsO wa1 p o.ty g) (Ws' := wsO wa1 p o.ty g') (k0 := 6) rfl rfl hφ hF) FL.start (by decide) ?_ ?_
          · intro φ W hφ hF
            obtain ⟨rfl, _⟩ := FL.step (i := 0) rfl (by decide) hF hφ (by intro p hp; omega) (by omega)
            refine (CW.out wa1.drew hxx).mono ?_
            rintro e W1 ⟨y, rfl, oy, b1⟩
            have b1' : Below wa1.heap.size wa1 W1 := (Below.refl _ wa1).drew.trans b1
            have hz := b1'.size
            obtain ⟨v, W3, r1, r2, r3⟩ := run_append_rd (P := Try.prog) (w := W1.alloc (.cells #[i64 o.ty, y] 72)) (ty := 23) (B := w.heap.size) Try.underlying23 info_obj rfl (by omega) (own_below z2 (b1'.alloc hz _)) lit_obj (one_obj (OwnW.rd oy).oneCell) (by omega) (by omega) (by simp; omega)
            rw [htk] at r2
            have hF' := FL.agree (Ws := wsO wa1 p o.ty ⟨undef, wr, undef, wr⟩) (Ws' := wsO wa1 p o.ty ⟨y, W1, v, W3⟩) (k0 := 6) rfl rfl hφ hF
            exact ⟨⟨y, W1, v, W3⟩, ⟨oy, b1', r1, r2, r3⟩, rfl, (FL.step (i := 0) rfl (by decide) hF' hφ (by intro p hp; omega) (by omega)).2⟩
          · rintro ⟨y, W1, v, W3⟩ ⟨oy, b1, r1, r2, r3⟩
            dsimp only at oy b1 r1 r2 r3 ⊢
            have MM := Lib.hid (copyO_mem (o := o) (a := w.heap.size) (b := w.heap.size + 1) (p := p) z1 z2 z4 z5 oy b1 r2 r3 q1 q2 q3 oT oS B hB (by omega) (by omega) (by omega) g4 hlt0 (by omega))
            obtain ⟨yyA, yyn, yyc, rfl⟩ : ∃ A n c, y = .slice A n c := by obtain ⟨A, c, e⟩ := own_form' oy; exact ⟨A, _, c, e⟩
            obtain ⟨vA, vn, vc, rfl⟩ : ∃ A n c, v = .slice A n c := by obtain ⟨A, c, e⟩ := own_form' r2; exact ⟨A, _, c, e⟩
            have b1c := (q3.below b1).cell 1; have b2c := ((q3.below b1).alloc (.cells #[i64 o.ty, .slice yyA yyn yyc] 72)).cell 1
            have b0c := (q3.below (Below.refl _ wa1).drew).cell 1
            have c4 := fun x : FXN (FL [6, 7, 8, 9, 11] (wsO wa1 p o.ty ⟨.slice yyA yyn yyc, W1, .slice vA vn vc, W3⟩) 1 3) => (FL.all (p := fun W => Bx W wr.heap.size 72 #[.int .i64 o.ty, .slice xA xn xc]) (by
              intro d hd
              rcases d with _ | _ | _ | _ | _ | d
              · exact g4.below (Below.refl _ wa1).drew
              · exact g4.below b1
              · exact g4.below b1
              · exact (g4.below b1).alloc _
              · exact MM.out.2.2.2.2.2.2.2.2.1
              · exact MM.out.2.2.2.2.2.2.2.2.2) x).cell
            haveI : Nonempty (FXN (FL [6, 7, 8, 9, 11] (wsO wa1 p o.ty ⟨.slice yyA yyn yyc, W1, .slice vA vn vc, W3⟩) 1 3)) := ⟨⟨_, _, FL.start⟩⟩
            refine wpG_read FL.dep rfl (by decide) (by decide) ?_; go_big_quiet_step (fail); refine wpQuiet_nil ?_
            refine wpG_step FL.dep (by decide) rfl (by rfl) (v := ot) [] rfl (fun f W hF h0 _ => ?_) ?_
            · obtain ⟨⟨d, hd, hd2, rfl⟩, hF'⟩ := FL.read (by decide) hF h0
              refine ⟨_, ?_, hF'⟩
              have hc : (wsO wa1 p o.ty ⟨.slice yyA yyn yyc, W1, .slice vA vn vc, W3⟩ d).cell? ⟨p, 1, none⟩ = some ot := by
                rcases d with _ | _ | _ | _ | d
                · exact b0c
                · exact b1c
                · exact b1c
                · exact b2c
                · omega
              simp [execOp, go_sem, hc]
            simp only [Act.put, List.setIfInBounds_toArray, List.set_cons_zero, List.set_cons_succ]
            iterate 4 (refine wpG_read FL.dep rfl (by decide) (by decide) ?_; go_big_quiet_step (fail); refine wpQuiet_nil ?_)
            refine wpG_call #[.slice xA xn xc] rfl (by simp [Act.eval]) (enter_CloneW _) ?_
            simp only [Act.put, List.setIfInBounds_toArray, List.set_cons_zero, List.set_cons_succ]
            refine wpG_step FL.dep (by decide) rfl (by rfl) (v := .agg #[i64 o.ty, .slice yyA yyn yyc]) [6] (by kernel_rfl) (fun f W hF h0 h1 => ?_) ?_
            · obtain ⟨rfl, h2⟩ := FL.step (i := 1) rfl (by decide) hF h0 (FL.prev (p := 0) (q := 6) rfl (h1 6 (by simp))) (by omega)
              refine ⟨_, ?_, h2⟩
              simp [execOp, go_sem, wsO, i64]
            simp only [Act.put, List.setIfInBounds_toArray, List.set_cons_zero, List.set_cons_succ]
            refine wpG_step FL.dep (by decide) rfl (by rfl) (v := .slice (some ⟨W1.heap.size, 0, none⟩) 1 1) [7] (by kernel_rfl) (fun f W hF h0 h1 => ?_) ?_
            · obtain ⟨rfl, h2⟩ := FL.step (i := 2) rfl (by decide) hF h0 (FL.prev (p := 1) (q := 7) rfl (h1 7 (by simp))) (by omega)
              refine ⟨_, ?_, h2⟩
              simp [execOp, go_sem, wsO, i64]
            simp only [Act.put, List.setIfInBounds_toArray, List.set_cons_zero, List.set_cons_succ]
            refine wpG_step FL.dep (by decide) rfl (by rfl) (v := .slice vA vn vc) [8, 1] (by kernel_rfl) (fun f W hF h0 h1 => ?_) ?_
            · obtain ⟨rfl, h2⟩ := FL.step (i := 3) rfl (by decide) hF h0 (FL.prev (p := 2) (q := 8) rfl (h1 8 (by simp))) (fun _ => h1 1 (by simp))
              exact ⟨_, by simp [execOp, resolve, invoke, builtin, Act.eval, wsO, r1], h2⟩
            simp only [Act.put, List.setIfInBounds_toArray, List.set_cons_zero, List.set_cons_succ]
            refine wpG_read FL.dep rfl (by decide) (by decide) ?_; go_big_quiet_step (fail); refine wpQuiet_nil ?_
            refine wpG_store FL.dep (by decide) rfl 23 (.tmp 44) (.tmp 43) rfl (by rfl) (p := .pointer (some ⟨p, 1, none⟩)) (u := .slice vA vn vc) (by rfl) (by rfl) [9] (by kernel_rfl) (fun f W hF h0 h1 => ?_) ?_
            · obtain ⟨rfl, h2⟩ := FL.step (i := 4) rfl (by decide) hF h0 (FL.prev (p := 3) (q := 9) rfl (h1 9 (by simp))) (by omega)
              refine ⟨_, ?_, h2⟩
              have hc := MM.out.1.1; have hf := MM.out.1.2
              simp [go_sem, wsO, hc, hf]
            refine wpG_nil ?_
            intro w' hw'
            obtain rfl := FL.done hw'
            have HM := Lib.hid (MM.out.2)
            clear this MM HQ q1 q2 q3 oT oS B z1 z2 z4 z5 b1c b2c b0c hw' r1 r2 r3 oy b1 c4 g4 hxx
            go_wp2
            go_roundg (NO - (k + 1))
            case measure => omega
            case rel =>
              obtain ⟨k1, k2, k3, k4, k5, k6, k7, _⟩ := HM.out
              refine ⟨k + 1, by omega, rfl, by go_num, Lib.hid ⟨_, ?_, k2, k3, k4, k5, k6, k7⟩⟩
              rwa [List.take_add_one, HT.out.out]
        · obtain rfl : k = NO := by omega
          obtain ⟨ot, oO, q1, q2, q3, oT, oS, B⟩ := hh.out
          rw [List.take_of_length_le (by have := HNO.out; omega)] at oO
          obtain ⟨oA, on, oc, rfl⟩ : ∃ A n c, ot = .slice A n c := by obtain ⟨vs, _, z2, _⟩ := oO; obtain ⟨A, c, e⟩ := own_form' z2; exact ⟨A, _, c, e⟩
          obtain ⟨xA, xn, xc, rfl⟩ : ∃ A n c, xt = .slice A n c := by obtain ⟨vs, _, z2, _⟩ := oT; obtain ⟨A, c, e⟩ := own_form' z2; exact ⟨A, _, c, e⟩
          have c2 := q2.cell; have c3 := q3.cell; have f2 := q2.free
          have OO := Lib.hid (And.intro oT (And.intro oO oS)); have HB := Lib.hid B
          clear hh q1 oT oO oS B
          go_wp2
          refine bodyPost_ret (v := .agg #[.slice xA xn xc, .slice oA on oc, .slice yA yn yc]) (by simp [results, Try.results49, go_sem, c2, c3, f2]) rfl ?_
          refine ⟨_, _, _, rfl, OwnM.set3 ⟨OO.out.1, OO.out.2.1, OO.out.2.2⟩ q2, ?_⟩
          have B := HB.out
          exact ((B.setCell (p := ⟨w.heap.size + 1, 0, none⟩) (by simp) _).setCell (p := ⟨w.heap.size + 1, 1, none⟩) (by simp) _).setCell (p := ⟨w.heap.size + 1, 2, none⟩) (by simp) _
end Go.Proofs.Ytgjpohhafmkhcaa
