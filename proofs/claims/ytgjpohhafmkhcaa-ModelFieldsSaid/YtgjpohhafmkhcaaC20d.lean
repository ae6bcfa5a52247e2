/- Contracts of models: checking one. -/
import Derived.Test.YtgjpohhafmkhcaaC20c
set_option linter.unusedVariables false
set_option linter.unusedSimpArgs false
namespace Go.Proofs.Ytgjpohhafmkhcaa
open Go.RowKit L02 L13 L18 L20

set_option maxRecDepth 100000 in
set_option maxHeartbeats 8000000 in
theorem Check20_any (tv ov sv : Value) (m : Mo) (r : Int) (hr : r = chk m) (w : World) (h : Mod w tv ov sv m) :
    Calls Try.prog 33 #[.agg #[tv, ov, sv]] w fun e w' => e = .returned (.int .i64 r) ∧ Below w.heap.size w w' := by
  have B : Below w.heap.size w w := Below.refl _ _
  have lt := h.t.len; have lo := h.o.len; have ls := h.s.len
  have lt' := h.t.len_le; have lo' := h.o.len_le; have ls' := h.s.len_le
  have hbig : 8 < m.types.length ∨ 960 < m.objs.length → r = 4 := fun hm => by rw [hr, chk_many hm]
  have hbad : ¬ (8 < m.types.length ∨ 960 < m.objs.length) → ¬ MoOk m → r = 8 := fun h1 h2 => by rw [hr, chk_bad h1 h2]
  have hgood : ¬ (8 < m.types.length ∨ 960 < m.objs.length) → MoOk m → r = 0 := fun h1 h2 => by rw [hr, chk_zero h1 h2]
  obtain ⟨NT, hNT⟩ : ∃ N, N = m.types.length := ⟨_, rfl⟩
  obtain ⟨NO, hNO⟩ : ∃ N, N = m.objs.length := ⟨_, rfl⟩
  obtain ⟨NS, hNS⟩ : ∃ N, N = m.slots.length := ⟨_, rfl⟩
  rw [← hNT] at lt lt' hbig hbad hgood; rw [← hNO] at lo lo' hbig hbad hgood; rw [← hNS] at ls ls'
  have H := Lib.hid h; have HNT := Lib.hid hNT; have HNO := Lib.hid hNO; have HNS := Lib.hid hNS
  clear h hr hNT hNO hNS
  by_cases h1 : 8 < NT
  · have hr4 := hbig (.inl h1)
    clear hbig hbad hgood
    subst hr4
    go_enter Try.func33, Try.ntmps33
    go_wp2
    go_ret
    exact ⟨rfl, B.alloc B.size _⟩
  by_cases h2 : 960 < NO
  · have hr4 := hbig (.inr h2)
    clear hbig hbad hgood
    subst hr4
    go_enter Try.func33, Try.ntmps33
    go_wp2
    go_ret
    exact ⟨rfl, B.alloc B.size _⟩
  have hnm : ¬ (8 < NT ∨ 960 < NO) := by omega
  have HBAD := Lib.hid (hbad hnm); have HGOOD := Lib.hid (hgood hnm)
  clear hbig hbad hgood hnm
  by_cases h3 : NS = 16
  · have h3' : ((NS : Int) != 16) = false := by rw [bne_eq_false_iff_eq]; omega
    have HS3 := Lib.hid h3; clear h3
    go_enter Try.func33, Try.ntmps33
    go_upto_region 1 with (fail)
    refine wp_gen (fun Wv => Bx Wv (w.heap.size) (26) (#[tv, ov, sv]) ∧ Below w.heap.size w Wv) ⟨((Bx.at_ (by simp))), ((Below.refl _ w).alloc (by simp <;> omega) _)⟩ ?_
    rintro wa1 ⟨g1, b⟩
    replace B := B.trans (b.mono B.size); clear b
    have c_g1 := g1.cell; have f_g1 := g1.free; have a_g1 := fun o => (g1.alloc o).cell; have d_g1 := fun o o2 => ((g1.alloc o).alloc o2).cell; have e_g1 := fun o => (g1.alloc o).free
    have HB := Lib.hid B; clear B
    go_wp2
    have HG1 := Lib.hid g1
    clear g1 c_g1 f_g1 a_g1 d_g1 e_g1
    go_loopg [26] NT (fun g i wr => ∃ j : Nat, j ≤ NT ∧ g = NT - j ∧ i = .int .i64 j ∧ Hid ((∀ (i : Nat) t, i < j → m.types[i]? = some t → kErr t = 0) ∧ Bx wr w.heap.size 26 #[tv, ov, sv] ∧ Below w.heap.size w wr))
    case atStart => exact ⟨0, by omega, by omega, rfl, Lib.hid ⟨fun i t hi => by omega, HG1.out, HB.out⟩⟩
    case round =>
      clear HG1 HB
      obtain ⟨j, hj, rfl, rfl, hh⟩ := hrel
      by_cases hlt : j < NT
      · obtain ⟨ad, y, t, iy, m0, ht, hby⟩ := (H.out.t.below hh.out.2.2).at_ (k := j) (by have := HNT.out; omega)
        by_cases hk : kErr t = 0
        · have KT := Lib.hid (fun w h => KCheck_any y t 0 hk.symm w h)
          have HK := Lib.hid hk; clear hk
          go_wp2_with fail
          refine (KT.out _ hby.out).mono ?_
          rintro e w2 ⟨rfl, rfl⟩
          go_wp2
          go_roundg (NT - (j + 1))
          case measure => omega
          case rel =>
            refine ⟨j + 1, by omega, rfl, by go_num, Lib.hid ⟨fun i u hi hu => ?_, hh.out.2⟩⟩
            by_cases hij : i < j
            · exact hh.out.1 i u hij hu
            · obtain rfl : i = j := by omega
              have := ht.out; rw [hu] at this; injection this with this; subst this; exact HK.out
        · have hr8 := HBAD.out (no_type ht.out hk)
          subst hr8
          obtain ⟨z, hz⟩ : ∃ z, z = kErr t := ⟨_, rfl⟩
          have KT := Lib.hid (fun w h => KCheck_any y t z hz w h)
          have hne : (z != 0) = true := by rw [bne_iff_ne, hz]; exact hk
          clear hk hz
          go_wp2_with fail
          refine (KT.out _ hby.out).mono ?_
          rintro e w2 ⟨rfl, rfl⟩
          go_wp2
          go_ret
          exact ⟨rfl, hh.out.2.2⟩
      · obtain rfl : j = NT := by omega
        have HT := Lib.hid (fun i t hi => hh.out.1 i t hi); have g1 := hh.out.2.1; have HB := Lib.hid hh.out.2.2
        clear hh
        have c_g1 := g1.cell
        go_wp2
        have HG1 := Lib.hid g1
        clear g1 c_g1
        go_loopg [37] NO (fun g i wr => ∃ k : Nat, k ≤ NO ∧ g = NO - k ∧ i = .int .i64 k ∧ Hid ((∀ (i : Nat) o, i < k → m.objs[i]? = some o → ObOk m.types m.objs.length o) ∧ Bx wr w.heap.size 26 #[tv, ov, sv] ∧ Below w.heap.size w wr))
        case atStart => exact ⟨0, by omega, by omega, rfl, Lib.hid ⟨fun i t hi => by omega, HG1.out, HB.out⟩⟩
        case round =>
          clear HG1 HB
          obtain ⟨k, hk, rfl, rfl, hh⟩ := hrel
          by_cases hltk : k < NO
          · obtain ⟨ob, oq, x, o, ix, m0, m1, ho, hx, hob⟩ := (H.out.o.below hh.out.2.2).at_ (k := k) (by have := HNO.out; omega)
            obtain ⟨z, hz⟩ : ∃ z, z = decide (ObOk m.types m.objs.length o) := ⟨_, rfl⟩
            have OT := Lib.hid (fun w h hx => object_any tv ov sv x m o z hz w h hx)
            have HZ := Lib.hid hz; clear hz
            have g1 := hh.out.2.1; have B := hh.out.2.2; have HA := Lib.hid hh.out.1
            have hxx := hx.out
            obtain ⟨xA, xn, xc, rfl⟩ : ∃ A n c, x = .slice A n c := by obtain ⟨A, c, e, _⟩ := hx.out; exact ⟨A, _, c, e⟩
            clear hx
            have H1 := Lib.hid (H.out.below B)
            have c_g1 := g1.cell
            go_upto_region 14 with (fail)
            refine wp_gen (fun Wv => Bx Wv (wr.heap.size) (72) (#[.int .i64 o.ty, .slice xA xn xc]) ∧ Below wr.heap.size wr Wv) ⟨((Bx.at_ (by simp))), ((Below.refl _ wr).alloc (by simp <;> omega) _)⟩ ?_
            rintro wa1 ⟨g2, b⟩
            try clear c_g1 f_g1 a_g1 d_g1 e_g1
            replace g1 := g1.below b; have c_g1 := g1.cell; have f_g1 := g1.free; have a_g1 := fun o => (g1.alloc o).cell; have d_g1 := fun o o2 => ((g1.alloc o).alloc o2).cell; have e_g1 := fun o => (g1.alloc o).free; replace hxx := hxx.below b; replace B := B.trans (b.mono B.size); clear b
            have c_g2 := g2.cell; have f_g2 := g2.free; have a_g2 := fun o => (g2.alloc o).cell; have d_g2 := fun o o2 => ((g2.alloc o).alloc o2).cell; have e_g2 := fun o => (g2.alloc o).free
            go_wp2_with fail
            refine (OT.out _ (H.out.below B) hxx).mono ?_
            rintro e w2 ⟨rfl, b2⟩
            replace B := B.trans (b2.mono B.size)
            cases z
            · have hbad := HBAD.out (no_obj ho.out (by have := HZ.out; rw [eq_comm, decide_eq_false_iff_not] at this; exact this))
              subst hbad
              clear b2
              go_wp2
              go_ret
              exact ⟨rfl, B⟩
            · have HH := Lib.hid (And.intro (g1.below b2) B)
              clear b2 g1 g2 c_g1 c_g2 f_g1 f_g2 a_g1 a_g2 d_g1 d_g2 e_g1 e_g2 B m0 m1
              go_wp2
              go_roundg (NO - (k + 1))
              case measure => omega
              case rel =>
                refine ⟨k + 1, by omega, rfl, by go_num, Lib.hid ⟨fun i u hi hu => ?_, HH.out⟩⟩
                by_cases hik : i < k
                · exact HA.out i u hik hu
                · obtain rfl : i = k := by omega
                  have := ho.out; rw [hu] at this; injection this with this; subst this
                  have := HZ.out; rw [eq_comm, decide_eq_true_iff] at this; exact this
          · obtain rfl : k = NO := by omega
            have HO := Lib.hid (fun i t hi => hh.out.1 i t hi); have g1 := hh.out.2.1; have HB := Lib.hid hh.out.2.2
            clear hh
            have c_g1 := g1.cell
            go_wp2
            have HG1 := Lib.hid g1
            clear g1 c_g1
            go_loopg [49] 16 (fun g i wr => ∃ q : Nat, q ≤ 16 ∧ g = 16 - q ∧ i = .int .i64 q ∧ Hid ((∀ (i : Nat) o, i < q → m.slots[i]? = some o → SlOk m.objs.length o) ∧ Bx wr w.heap.size 26 #[tv, ov, sv] ∧ Below w.heap.size w wr))
            case atStart => exact ⟨0, by omega, by omega, rfl, Lib.hid ⟨fun i t hi => by omega, HG1.out, HB.out⟩⟩
            case round =>
              clear HG1 HB
              obtain ⟨q, hq, rfl, rfl, hh⟩ := hrel
              by_cases hltq : q < 16
              · have hqn : q < NS := by have := HS3.out; omega
                obtain ⟨sb, sq, s, ix, m0, m1, m2, hs⟩ := (H.out.s.below hh.out.2.2).at_ (P := Try.prog) Try.underlying24 size_slot (k := q) (by have := HNS.out; omega)
                obtain ⟨z, hz⟩ : ∃ z, z = decide (SlOk m.objs.length s) := ⟨_, rfl⟩
                have ST := Lib.hid (fun w h => slot_any tv ov sv m s z hz w h)
                have HZ := Lib.hid hz; clear hz
                have g1 := hh.out.2.1; have B := hh.out.2.2; have HA := Lib.hid hh.out.1
                have c_g1 := g1.cell
                go_upto_region 20 with (fail)
                refine wp_gen (fun Wv => Bx Wv (wr.heap.size) (67) (#[.int .i64 s.gen, .bool s.used, .int .i64 s.at_]) ∧ Below wr.heap.size wr Wv) ⟨((Bx.at_ (by simp))), ((Below.refl _ wr).alloc (by simp <;> omega) _)⟩ ?_
                rintro wa1 ⟨g2, b⟩
                try clear c_g1 f_g1 a_g1 d_g1 e_g1
                replace g1 := g1.below b; have c_g1 := g1.cell; have f_g1 := g1.free; have a_g1 := fun o => (g1.alloc o).cell; have d_g1 := fun o o2 => ((g1.alloc o).alloc o2).cell; have e_g1 := fun o => (g1.alloc o).free; replace B := B.trans (b.mono B.size); clear b
                have c_g2 := g2.cell; have f_g2 := g2.free; have a_g2 := fun o => (g2.alloc o).cell; have d_g2 := fun o o2 => ((g2.alloc o).alloc o2).cell; have e_g2 := fun o => (g2.alloc o).free
                go_wp2_with fail
                refine (ST.out _ (H.out.below B)).mono ?_
                rintro e w2 ⟨rfl, b2⟩
                replace B := B.trans (b2.mono B.size)
                cases z
                · have hbad := HBAD.out (no_slot hs.out (by have := HZ.out; rw [eq_comm, decide_eq_false_iff_not] at this; exact this))
                  subst hbad
                  clear b2
                  go_wp2
                  go_ret
                  exact ⟨rfl, B⟩
                · have HH := Lib.hid (And.intro (g1.below b2) B)
                  clear b2 g1 g2 c_g1 c_g2 f_g1 f_g2 a_g1 a_g2 d_g1 d_g2 e_g1 e_g2 B m0 m1 m2
                  go_wp2
                  go_roundg (16 - (q + 1))
                  case measure => omega
                  case rel =>
                    refine ⟨q + 1, by omega, rfl, by go_num, Lib.hid ⟨fun i u hi hu => ?_, HH.out⟩⟩
                    by_cases hik : i < q
                    · exact HA.out i u hik hu
                    · obtain rfl : i = q := by omega
                      have := hs.out; rw [hu] at this; injection this with this; subst this
                      have := HZ.out; rw [eq_comm, decide_eq_true_iff] at this; exact this
              · obtain rfl : q = 16 := by omega
                have hmo : MoOk m := by
                  refine ⟨by rw [← HNS.out]; exact HS3.out, fun t ht => ?_, fun o ho => ?_, fun s hs => ?_⟩
                  · obtain ⟨i, hi, hit⟩ := List.getElem_of_mem ht
                    exact HT.out i t (by rw [HNT.out]; exact hi) (by rw [List.getElem?_eq_getElem hi, hit])
                  · obtain ⟨i, hi, hit⟩ := List.getElem_of_mem ho
                    exact HO.out i o (by rw [HNO.out]; exact hi) (by rw [List.getElem?_eq_getElem hi, hit])
                  · obtain ⟨i, hi, hit⟩ := List.getElem_of_mem hs
                    exact hh.out.1 i s (by have := HNS.out; have := HS3.out; omega) (by rw [List.getElem?_eq_getElem hi, hit])
                have hr0 := HGOOD.out hmo
                subst hr0
                have hns : ¬ (16 : Int) < NS := by have := HS3.out; omega
                have hns' : decide ((16 : Int) < NS) = false := decide_eq_false hns
                obtain rfl := HS3.out
                go_wp2
                go_ret
                exact ⟨rfl, hh.out.2.2⟩
  · have hr8 := HBAD.out (fun hm => h3 (by rw [HNS.out]; exact hm.1))
    subst hr8
    have h3' : ((NS : Int) != 16) = true := by rw [bne_iff_ne]; omega
    clear h3
    go_enter Try.func33, Try.ntmps33
    go_wp2
    go_ret
    exact ⟨rfl, B.alloc B.size _⟩
end Go.Proofs.Ytgjpohhafmkhcaa
