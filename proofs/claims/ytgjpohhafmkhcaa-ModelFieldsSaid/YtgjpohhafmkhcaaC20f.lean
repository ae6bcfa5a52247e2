/- Contracts of the reference of models: the error of a model, of a handle; greatness. -/
import Derived.Test.YtgjpohhafmkhcaaC20e
set_option linter.unusedVariables false
set_option linter.unusedSimpArgs false
namespace Go.Proofs.Ytgjpohhafmkhcaa
open Go.RowKit L02 L13 L18 L20

set_option maxRecDepth 100000 in
set_option maxHeartbeats 4000000 in
theorem CheckR20_any (tv ov sv : Value) (m : Mo) (r : Int) (hr : r = chk m) (w : World) (h : Mod w tv ov sv m) :
    Calls Try.prog 24 #[.agg #[tv, ov, sv]] w fun e w' => e = .returned (.int .i64 r) ∧ Below w.heap.size w w' := by
  have B : Below w.heap.size w w := Below.refl _ _
  have lt := h.t.len; have lo := h.o.len; have ls := h.s.len
  have lt' := h.t.len_le; have lo' := h.o.len_le
  have hbig : 8 < m.types.length ∨ 960 < m.objs.length → r = 4 := fun hm => by rw [hr, chk_many hm]
  have hbad : ¬ (8 < m.types.length ∨ 960 < m.objs.length) → ¬ MoOk m → r = 8 := fun h1 h2 => by rw [hr, chk_bad h1 h2]
  have hgood : ¬ (8 < m.types.length ∨ 960 < m.objs.length) → MoOk m → r = 0 := fun h1 h2 => by rw [hr, chk_zero h1 h2]
  obtain ⟨z, hz⟩ : ∃ z, z = decide (MoOk m) := ⟨_, rfl⟩
  have VT := Lib.hid (fun w h => validR_any tv ov sv m z hz w h)
  obtain ⟨NT, hNT⟩ : ∃ N, N = m.types.length := ⟨_, rfl⟩
  obtain ⟨NO, hNO⟩ : ∃ N, N = m.objs.length := ⟨_, rfl⟩
  rw [← hNT] at lt lt' hbig hbad hgood; rw [← hNO] at lo lo' hbig hbad hgood
  clear hr hNT hNO
  by_cases h1 : 8 < NT
  · have hr4 := hbig (.inl h1)
    clear hbig hbad hgood h
    subst hr4
    go_enter Try.func24, Try.ntmps24
    go_wp2
    go_ret
    exact ⟨rfl, B.alloc B.size _⟩
  by_cases h2 : 960 < NO
  · have hr4 := hbig (.inr h2)
    clear hbig hbad hgood h
    subst hr4
    go_enter Try.func24, Try.ntmps24
    go_wp2
    go_ret
    exact ⟨rfl, B.alloc B.size _⟩
  have hnm : ¬ (8 < NT ∨ 960 < NO) := by omega
  have hrr : r = if z = true then 0 else 8 := by
    by_cases hm : MoOk m
    · rw [hgood hnm hm, hz, decide_eq_true hm]; rfl
    · rw [hbad hnm hm, hz, decide_eq_false hm]; rfl
  have H := Lib.hid h
  clear hbig hbad hgood hnm hz h
  cases z
  · obtain rfl : r = 8 := hrr
    go_enter Try.func24, Try.ntmps24
    go_upto_region 1 with (fail)
    refine wp_gen (fun Wv => Bx Wv (w.heap.size) (26) (#[tv, ov, sv]) ∧ Below w.heap.size w Wv) ⟨((Bx.at_ (by simp))), ((Below.refl _ w).alloc (by simp <;> omega) _)⟩ ?_
    rintro wa1 ⟨g1, b⟩
    replace B := B.trans (b.mono B.size); clear b
    have c_g1 := g1.cell; have f_g1 := g1.free; have a_g1 := fun o => (g1.alloc o).cell; have d_g1 := fun o o2 => ((g1.alloc o).alloc o2).cell; have e_g1 := fun o => (g1.alloc o).free
    go_wp2_with fail
    refine (VT.out _ (H.out.below B)).mono ?_
    rintro e w2 ⟨rfl, b2⟩
    replace B := B.trans (b2.mono B.size)
    clear b2
    go_wp2
    go_ret
    exact ⟨rfl, B⟩
  · obtain rfl : r = 0 := hrr
    go_enter Try.func24, Try.ntmps24
    go_upto_region 1 with (fail)
    refine wp_gen (fun Wv => Bx Wv (w.heap.size) (26) (#[tv, ov, sv]) ∧ Below w.heap.size w Wv) ⟨((Bx.at_ (by simp))), ((Below.refl _ w).alloc (by simp <;> omega) _)⟩ ?_
    rintro wa1 ⟨g1, b⟩
    replace B := B.trans (b.mono B.size); clear b
    have c_g1 := g1.cell; have f_g1 := g1.free; have a_g1 := fun o => (g1.alloc o).cell; have d_g1 := fun o o2 => ((g1.alloc o).alloc o2).cell; have e_g1 := fun o => (g1.alloc o).free
    go_wp2_with fail
    refine (VT.out _ (H.out.below B)).mono ?_
    rintro e w2 ⟨rfl, b2⟩
    replace B := B.trans (b2.mono B.size)
    clear b2
    go_wp2
    go_ret
    exact ⟨rfl, B⟩

set_option maxRecDepth 100000 in
set_option maxHeartbeats 4000000 in
theorem Asked_any (tv ov sv : Value) (m : Mo) (sl g : Int) (r : Int) (hr : r = asked m sl g) (w : World) (h : Mod w tv ov sv m) :
    Calls Try.prog 56 #[.agg #[tv, ov, sv], .agg #[.int .i64 sl, .int .i64 g]] w fun e w' => e = .returned (.int .i64 r) ∧ Below w.heap.size w w' := by
  have B : Below w.heap.size w w := Below.refl _ _
  obtain ⟨c, hc⟩ : ∃ c, c = chk m := ⟨_, rfl⟩
  have CT := Lib.hid (fun w h => CheckR20_any tv ov sv m c hc w h)
  have H := Lib.hid h
  by_cases h0 : c = 0
  · have hr1 : r = rightErr m.slots sl g := by rw [hr, asked_eq (by rw [← hc]; exact h0)]
    have RT := Lib.hid (fun w h => RightR_any sv m.slots sl g r hr1 w h)
    subst h0
    clear hr hc hr1 h
    go_enter Try.func56, Try.ntmps56
    go_upto_region 1 with (fail)
    refine wp_gen (fun Wv => Bx Wv (w.heap.size) (26) (#[tv, ov, sv]) ∧ Bx Wv (w.heap.size + 1) (28) (#[.int .i64 sl, .int .i64 g]) ∧ Below w.heap.size w Wv) ⟨(((Bx.at_ (by simp)).alloc _)), ((Bx.at_ (by simp))), (((Below.refl _ w).alloc (by simp <;> omega) _).alloc (by simp <;> omega) _)⟩ ?_
    rintro wa1 ⟨g1, g2, b⟩
    replace B := B.trans (b.mono B.size); clear b
    have c_g1 := g1.cell; have f_g1 := g1.free; have a_g1 := fun o => (g1.alloc o).cell; have d_g1 := fun o o2 => ((g1.alloc o).alloc o2).cell; have e_g1 := fun o => (g1.alloc o).free
    have c_g2 := g2.cell; have f_g2 := g2.free; have a_g2 := fun o => (g2.alloc o).cell; have d_g2 := fun o o2 => ((g2.alloc o).alloc o2).cell; have e_g2 := fun o => (g2.alloc o).free
    go_wp2_with fail
    refine (CT.out _ (H.out.below B)).mono ?_
    rintro e w2 ⟨rfl, b2⟩
    replace B := B.trans (b2.mono B.size)
    replace g1 := g1.below b2; replace g2 := g2.below b2
    clear b2 c_g1 f_g1 a_g1 d_g1 e_g1 c_g2 f_g2 a_g2 d_g2 e_g2
    have c_g1 := g1.cell; have c_g2 := g2.cell
    go_wp2_with fail
    refine (RT.out _ (H.out.s.below B)).mono ?_
    rintro e w3 ⟨rfl, b2⟩
    replace B := B.trans (b2.mono B.size)
    clear b2
    go_wp2
    go_ret
    exact ⟨rfl, B⟩
  · have hr1 : r = c := by rw [hr, asked_no (by rw [← hc]; exact h0), hc]
    have hne : (c != 0) = true := by rw [bne_iff_ne]; exact h0
    subst hr1
    clear hr hc h h0
    go_enter Try.func56, Try.ntmps56
    go_upto_region 1 with (fail)
    refine wp_gen (fun Wv => Bx Wv (w.heap.size) (26) (#[tv, ov, sv]) ∧ Bx Wv (w.heap.size + 1) (28) (#[.int .i64 sl, .int .i64 g]) ∧ Below w.heap.size w Wv) ⟨(((Bx.at_ (by simp)).alloc _)), ((Bx.at_ (by simp))), (((Below.refl _ w).alloc (by simp <;> omega) _).alloc (by simp <;> omega) _)⟩ ?_
    rintro wa1 ⟨g1, g2, b⟩
    replace B := B.trans (b.mono B.size); clear b
    have c_g1 := g1.cell; have f_g1 := g1.free; have a_g1 := fun o => (g1.alloc o).cell; have d_g1 := fun o o2 => ((g1.alloc o).alloc o2).cell; have e_g1 := fun o => (g1.alloc o).free
    have c_g2 := g2.cell; have f_g2 := g2.free; have a_g2 := fun o => (g2.alloc o).cell; have d_g2 := fun o o2 => ((g2.alloc o).alloc o2).cell; have e_g2 := fun o => (g2.alloc o).free
    go_wp2_with fail
    refine (CT.out _ (H.out.below B)).mono ?_
    rintro e w2 ⟨rfl, b2⟩
    replace B := B.trans (b2.mono B.size)
    clear b2
    go_wp2
    go_ret
    exact ⟨rfl, B⟩
end Go.Proofs.Ytgjpohhafmkhcaa
