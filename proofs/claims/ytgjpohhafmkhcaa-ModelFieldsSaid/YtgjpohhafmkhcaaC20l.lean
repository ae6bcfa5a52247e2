/- Contracts of models: sameness. -/
import Derived.Test.YtgjpohhafmkhcaaC20k
set_option linter.unusedVariables false
set_option linter.unusedSimpArgs false
namespace Go.Proofs.Ytgjpohhafmkhcaa
open Go.RowKit L02 L13 L18 L20

theorem mo_ne {a b : Mo} (h : ¬ (a.types = b.types ∧ a.objs = b.objs ∧ a.slots = b.slots)) : ¬ a = b := fun e => h (by rw [e]; exact ⟨rfl, rfl, rfl⟩)
theorem mo_eq {a b : Mo} (h1 : a.types = b.types) (h2 : a.objs = b.objs) (h3 : a.slots = b.slots) : a = b := by cases a; cases b; simp_all
theorem ob_eq {a b : Ob} (h1 : a.ty = b.ty) (h2 : a.fs = b.fs) : a = b := by cases a; cases b; simp_all

set_option maxRecDepth 100000 in
set_option maxHeartbeats 4000000 in
theorem Same20_any (ta oa sa tb ob sb : Value) (a b : Mo) (r : Bool) (hr : r = decide (a = b)) (w : World) (ha : Mod w ta oa sa a) (hb : Mod w tb ob sb b) :
    Calls Try.prog 19 #[.agg #[ta, oa, sa], .agg #[tb, ob, sb]] w fun e w' => e = .returned (.bool r) ∧ Below w.heap.size w w' := by
  have B : Below w.heap.size w w := Below.refl _ _
  have lo := ha.o.len; have lo2 := hb.o.len
  have lo' := ha.o.len_le; have lo2' := hb.o.len_le
  obtain ⟨z1, hz1⟩ : ∃ z, z = decide (a.types = b.types) := ⟨_, rfl⟩
  obtain ⟨z3, hz3⟩ : ∃ z, z = sameS a.slots b.slots := ⟨_, rfl⟩
  have TT := Lib.hid (fun w h1 h2 => SameT_any ta tb a.types b.types z1 hz1 w h1 h2)
  have ST := Lib.hid (fun w h1 h2 => SameS_any sa sb a.slots b.slots z3 hz3 w h1 h2)
  obtain ⟨NA, hNA⟩ : ∃ N, N = a.objs.length := ⟨_, rfl⟩
  obtain ⟨NB, hNB⟩ : ∃ N, N = b.objs.length := ⟨_, rfl⟩
  rw [← hNA] at lo lo'; rw [← hNB] at lo2 lo2'
  have HA := Lib.hid ha; have HB := Lib.hid hb; have HNA := Lib.hid hNA; have HNB := Lib.hid hNB; have HR := Lib.hid hr; have HZ1 := Lib.hid hz1; have HZ3 := Lib.hid hz3
  have hno : ¬ (a.types = b.types ∧ a.objs = b.objs ∧ a.slots = b.slots) → r = false := fun h => by rw [hr]; exact decide_eq_false (mo_ne h)
  have HNO := Lib.hid hno
  clear ha hb hNA hNB hr hz1 hz3 hno
  go_enter Try.func19, Try.ntmps19
  go_upto_region 1 with (fail)
  refine wp_gen (fun Wv => Bx Wv (w.heap.size) (26) (#[ta, oa, sa]) ∧ Bx Wv (w.heap.size + 1) (26) (#[tb, ob, sb]) ∧ Below w.heap.size w Wv) ⟨(((Bx.at_ (by simp)).alloc _)), ((Bx.at_ (by simp))), (((Below.refl _ w).alloc (by simp <;> omega) _).alloc (by simp <;> omega) _)⟩ ?_
  rintro wa1 ⟨g1, g2, b⟩
  replace B := B.trans (b.mono B.size); clear b
  have c_g1 := g1.cell; have f_g1 := g1.free; have a_g1 := fun o => (g1.alloc o).cell; have d_g1 := fun o o2 => ((g1.alloc o).alloc o2).cell; have e_g1 := fun o => (g1.alloc o).free
  have c_g2 := g2.cell; have f_g2 := g2.free; have a_g2 := fun o => (g2.alloc o).cell; have d_g2 := fun o o2 => ((g2.alloc o).alloc o2).cell; have e_g2 := fun o => (g2.alloc o).free
  go_wp2_with fail
  refine (TT.out _ (HA.out.t.below B) (HB.out.t.below B)).mono ?_
  rintro e w2 ⟨rfl, b2⟩
  replace g1 := g1.below b2; replace g2 := g2.below b2; replace B := B.trans (b2.mono B.size)
  clear b2 c_g1 c_g2 f_g1 f_g2 a_g1 a_g2 d_g1 d_g2 e_g1 e_g2
  have c_g1 := g1.cell; have c_g2 := g2.cell
  cases z1
  · have hrf := HNO.out (fun h => by have := HZ1.out; rw [eq_comm, decide_eq_false_iff_not] at this; exact this h.1)
    subst hrf
    go_wp2
    go_ret
    exact ⟨rfl, B⟩
  · by_cases hl : NA = NB
    · have hl1 : ((NA : Int) != (NB : Int)) = false := by rw [bne_eq_false_iff_eq]; omega
      have HL := Lib.hid hl; clear hl
      go_wp2_with fail
      refine (ST.out _ (HA.out.s.below B) (HB.out.s.below B)).mono ?_
      rintro e w3 ⟨rfl, b2⟩
      replace g1 := g1.below b2; replace g2 := g2.below b2; replace B := B.trans (b2.mono B.size)
      clear b2 c_g1 c_g2
      cases z3
      · have hrf := HNO.out (fun h => by have := HZ3.out; rw [sameS, eq_comm, decide_eq_false_iff_not] at this; exact this h.2.2)
        subst hrf
        go_wp2
        go_ret
        exact ⟨rfl, B⟩
      · have HG := Lib.hid (And.intro g1 (And.intro g2 B))
        clear g1 g2 B
        go_wp2
        go_loopg [5] NA (fun g i wr => ∃ k : Nat, k ≤ NA ∧ g = NA - k ∧ i = .int .i64 k ∧ Hid (a.objs.take k = b.objs.take k ∧ Bx wr w.heap.size 26 #[ta, oa, sa] ∧ Bx wr (w.heap.size + 1) 26 #[tb, ob, sb] ∧ Below w.heap.size w wr))
        case atStart => exact ⟨0, by omega, by omega, rfl, Lib.hid ⟨by simp, HG.out⟩⟩
        case round =>
          clear HG
          obtain ⟨k, hk, rfl, rfl, hh⟩ := hrel
          obtain ⟨heq, g1, g2, B⟩ := hh.out
          have HEQ := Lib.hid heq
          clear hh heq
          have c_g1 := g1.cell; have c_g2 := g2.cell
          by_cases hlt : k < NA
          · obtain ⟨bb, bq, x, o, ix, m0, m1, ho, hx, hxb⟩ := (HA.out.o.below B).at_ (k := k) (by have := HNA.out; omega)
            obtain ⟨cb, cq, y, p, iy, m2, m3, hp, hy, hyb⟩ := (HB.out.o.below B).at_ (k := k) (by have := HNB.out; have := HL.out; omega)
            have hxx := hx.out; have hyy := hy.out
            by_cases hty : o.ty = p.ty
            · have ht : (o.ty != p.ty) = false := by rw [bne_eq_false_iff_eq]; exact hty
              obtain ⟨q, hq⟩ : ∃ q, q = L02.same o.fs p.fs := ⟨_, rfl⟩
              have SW := Lib.hid (fun w h1 h2 => Same_r x y o.fs p.fs q hq w h1 h2)
              have HQ := Lib.hid hq; have HTY := Lib.hid hty; clear hq hty
              have HXX := Lib.hid hxx; have HYY := Lib.hid hyy
              go_upto_region 6 with (fail)
              have HC := Lib.hid (fun z : Fut wr => And.intro (HXX.out.below z.h) (HYY.out.below z.h))
              clear hxx hyy
              refine wp_region_calm (by kernel_rfl) (by kernel_rfl) ?_
              try clear c_g1 f_g1 a_g1 d_g1 e_g1
              have c_g1 := fun x : Fut _ => (g1.below x.h).cell
              try clear c_g2 f_g2 a_g2 d_g2 e_g2
              have c_g2 := fun x : Fut _ => (g2.below x.h).cell
              have c_m0 := fun x : Fut _ => cell_later x.h m0
              have c_m1 := fun x : Fut _ => cell_later x.h m1
              have c_m2 := fun x : Fut _ => cell_later x.h m2
              have c_m3 := fun x : Fut _ => cell_later x.h m3
              repeat (go_big_quiet_step (exact Fut.call (SW.out _ (HC.out _).1 (HC.out _).2)))
              refine wpQuiet_nil ?_
              intro _ hw'
              obtain ⟨xq, hw''⟩ := hw'
              subst hw''
              clear c_g1; replace g1 := g1.below xq.h; have c_g1 := g1.cell; have f_g1 := g1.free; have a_g1 := fun o => (g1.alloc o).cell; have d_g1 := fun o o2 => ((g1.alloc o).alloc o2).cell; have e_g1 := fun o => (g1.alloc o).free
              clear c_g2; replace g2 := g2.below xq.h; have c_g2 := g2.cell; have f_g2 := g2.free; have a_g2 := fun o => (g2.alloc o).cell; have d_g2 := fun o o2 => ((g2.alloc o).alloc o2).cell; have e_g2 := fun o => (g2.alloc o).free
              clear c_m0; replace m0 := cell_later xq.h m0
              clear c_m1; replace m1 := cell_later xq.h m1
              clear c_m2; replace m2 := cell_later xq.h m2
              clear c_m3; replace m3 := cell_later xq.h m3
              replace B := B.trans (xq.h.mono B.size)
              cases q
              · have hrf := HNO.out (fun h => by
                  have h1 := ho.out; have h2 := hp.out
                  rw [h.2.1, h2] at h1; injection h1 with h1
                  have := HQ.out; rw [h1] at this
                  simp [L02.same] at this)
                subst hrf
                go_wp2
                go_ret
                exact ⟨rfl, B⟩
              · have hs : o.fs = p.fs := by have := HQ.out; simpa [L02.same, eq_comm] using this
                have HS := Lib.hid (ob_eq HTY.out hs); clear hs
                have HH := Lib.hid (And.intro g1 (And.intro g2 B))
                clear g1 g2 B c_g1 c_g2 f_g1 f_g2 a_g1 a_g2 d_g1 d_g2 e_g1 e_g2 m0 m1 m2 m3
                go_wp2
                go_roundg (NA - (k + 1))
                case measure => omega
                case rel =>
                  refine ⟨k + 1, by omega, rfl, by go_num, Lib.hid ⟨?_, HH.out⟩⟩
                  rw [List.take_add_one, List.take_add_one, HEQ.out, ho.out, hp.out, HS.out]
            · have ht : (o.ty != p.ty) = true := by rw [bne_iff_ne]; exact hty
              have hrf := HNO.out (fun h => by
                have h1 := ho.out; have h2 := hp.out
                rw [h.2.1, h2] at h1; injection h1 with h1
                exact hty (by rw [h1]))
              subst hrf
              clear hxx hyy hty
              go_upto_region 6 with (fail)
              refine wp_region_calm (by kernel_rfl) (by kernel_rfl) ?_
              try clear c_g1 f_g1 a_g1 d_g1 e_g1
              have c_g1 := fun x : Fut _ => (g1.below x.h).cell
              try clear c_g2 f_g2 a_g2 d_g2 e_g2
              have c_g2 := fun x : Fut _ => (g2.below x.h).cell
              have c_m0 := fun x : Fut _ => cell_later x.h m0
              have c_m1 := fun x : Fut _ => cell_later x.h m1
              have c_m2 := fun x : Fut _ => cell_later x.h m2
              have c_m3 := fun x : Fut _ => cell_later x.h m3
              repeat (go_big_quiet_step (fail))
              refine wpQuiet_nil ?_
              intro _ hw'
              obtain ⟨xq, hw''⟩ := hw'
              subst hw''
              clear c_g1; replace g1 := g1.below xq.h; have c_g1 := g1.cell; have f_g1 := g1.free; have a_g1 := fun o => (g1.alloc o).cell; have d_g1 := fun o o2 => ((g1.alloc o).alloc o2).cell; have e_g1 := fun o => (g1.alloc o).free
              clear c_g2; replace g2 := g2.below xq.h; have c_g2 := g2.cell; have f_g2 := g2.free; have a_g2 := fun o => (g2.alloc o).cell; have d_g2 := fun o o2 => ((g2.alloc o).alloc o2).cell; have e_g2 := fun o => (g2.alloc o).free
              clear c_m0; replace m0 := cell_later xq.h m0
              clear c_m1; replace m1 := cell_later xq.h m1
              clear c_m2; replace m2 := cell_later xq.h m2
              clear c_m3; replace m3 := cell_later xq.h m3
              replace B := B.trans (xq.h.mono B.size)
              go_wp2
              go_ret
              exact ⟨rfl, B⟩
          · obtain rfl : k = NA := by omega
            have hrt : r = true := by
              rw [HR.out, decide_eq_true_iff]
              have h1 := HEQ.out
              rw [List.take_of_length_le (by have := HNA.out; omega), List.take_of_length_le (by have := HNB.out; have := HL.out; omega)] at h1
              have h2 := HZ1.out; have h3 := HZ3.out
              rw [eq_comm, decide_eq_true_iff] at h2
              rw [sameS, eq_comm, decide_eq_true_iff] at h3
              exact mo_eq h2 h1 h3
            subst hrt
            go_wp2
            go_ret
            exact ⟨rfl, B⟩
    · have hl1 : ((NA : Int) != (NB : Int)) = true := by rw [bne_iff_ne]; omega
      have hrf := HNO.out (fun h => hl (by rw [HNA.out, HNB.out, h.2.1]))
      subst hrf
      clear hl
      go_wp2
      go_ret
      exact ⟨rfl, B⟩
end Go.Proofs.Ytgjpohhafmkhcaa
