/- Contracts of the functions that the laws 'R' reach, part 16. No condition. -/
import Derived.Test.YtiiilaojllmmiaaMRo
set_option linter.unusedVariables false
set_option linter.unusedSimpArgs false
namespace Go.Proofs.Ytiiilaojllmmiaa
open Go.RowKit L02 L13 L18 L20
theorem right_case {L : List Sl} {k : Nat} {s : Sl} {g r : Int} (hs : L[k]? = some s) (hr : r = rightErr L k g) : (s.used = false ∧ r = 28) ∨ (s.used = true ∧ (s.gen != g) = true ∧ r = 28) ∨ (s.used = true ∧ (s.gen != g) = false ∧ r = 0) := by
  have hk : k < L.length := (List.getElem?_eq_some_iff.1 hs).1
  have hgd : L.getD (k : Int).toNat .none = s := by simp [List.getD_eq_getElem?_getD, hs]
  have hrr : r = if s.used = true ∧ s.gen = g then 0 else 28 := by rw [hr, rightErr, if_pos (by omega), hgd]
  obtain ⟨gn, us, a⟩ := s
  dsimp only at *
  cases us
  · exact .inl ⟨rfl, by rw [hrr, if_neg (by simp)]⟩
  · by_cases hg : gn = g
    · exact .inr (.inr ⟨rfl, by rw [bne_eq_false_iff_eq]; exact hg, by rw [hrr, if_pos ⟨rfl, hg⟩]⟩)
    · exact .inr (.inl ⟨rfl, by rw [bne_iff_ne]; exact hg, by rw [hrr, if_neg (fun h => hg h.2)]⟩)
set_option maxRecDepth 100000 in
set_option maxHeartbeats 4000000 in
theorem find20_any (tv ov sv : Value) (m : Mo) (sl g : Int) (r : Int) (hr : r = rightErr m.slots sl g) (w : World) (h : Mod w tv ov sv m) :
    Calls Try.prog 91 #[.agg #[tv, ov, sv], .agg #[.int .i64 sl, .int .i64 g]] w fun e w' => e = .returned (.int .i64 r) ∧ Below w.heap.size w w' := by
  have B : Below w.heap.size w w := Below.refl _ _
  have ls := h.s.len
  obtain ⟨NS, hNS⟩ : ∃ N, N = m.slots.length := ⟨_, rfl⟩
  rw [← hNS] at ls
  by_cases hin : 0 ≤ sl ∧ sl < NS
  · obtain ⟨h0, h1⟩ := hin
    obtain ⟨k, rfl⟩ := Int.eq_ofNat_of_zero_le h0
    obtain ⟨b, o, s, ia, m0, m1, m2, hs⟩ := h.s.at_ (P := Try.prog) Try.underlying50 size_slot (k := k) (by omega)
    have hcase := right_case hs.out hr
    have n1 : ¬ (k : Int) < 0 := by omega
    have n2 : ¬ (NS : Int) ≤ (k : Int) := by omega
    have n3 : ¬ NS ≤ k := by omega
    obtain ⟨gn, us, a⟩ := s
    dsimp only at m0 m1 m2 hcase
    clear hr h hs hNS h0 h1
    rcases hcase with ⟨rfl, rfl⟩ | ⟨rfl, hne, rfl⟩ | ⟨rfl, hne, rfl⟩
    all_goals
      go_enter Try.func91, Try.ntmps91
      go_upto_region 1 with (fail)
      refine wp_gen (fun Wv => Bx Wv (w.heap.size) (87) (#[tv, ov, sv]) ∧ Bx Wv (w.heap.size + 1) (24) (#[.int .i64 k, .int .i64 g]) ∧ Below w.heap.size w Wv) ⟨(((Bx.at_ (by simp)).alloc _)), ((Bx.at_ (by simp))), (((Below.refl _ w).alloc (by simp <;> omega) _).alloc (by simp <;> omega) _)⟩ ?_
      rintro wa1 ⟨g1, g2, b⟩
      replace m0 := cell_later b m0; replace m1 := cell_later b m1; replace m2 := cell_later b m2; replace B := B.trans (b.mono B.size); clear b
      have c_g1 := g1.cell; have f_g1 := g1.free; have a_g1 := fun o => (g1.alloc o).cell; have d_g1 := fun o o2 => ((g1.alloc o).alloc o2).cell; have e_g1 := fun o => (g1.alloc o).free
      have c_g2 := g2.cell; have f_g2 := g2.free; have a_g2 := fun o => (g2.alloc o).cell; have d_g2 := fun o o2 => ((g2.alloc o).alloc o2).cell; have e_g2 := fun o => (g2.alloc o).free
      go_wp2
      go_ret
      refine ⟨rfl, ?_⟩
      (repeat (first | refine Below.setCell ?_ (by first | exact Nat.le_refl _ | (simp <;> omega)) _ | refine Below.alloc ?_ (by first | exact B.size | (have := B.size; simp <;> omega)) _)); exact B
  · have hr0 : r = 2 := by rw [hr, rightErr, if_neg (by omega)]
    clear hr h hNS
    subst hr0
    have hcase : sl < 0 ∨ ¬ sl < 0 ∧ (NS : Int) ≤ sl := by omega
    clear hin
    rcases hcase with h1 | ⟨h1, h2⟩
    all_goals
      go_enter Try.func91, Try.ntmps91
      go_upto_region 1 with (fail)
      refine wp_gen (fun Wv => Bx Wv (w.heap.size) (87) (#[tv, ov, sv]) ∧ Bx Wv (w.heap.size + 1) (24) (#[.int .i64 sl, .int .i64 g]) ∧ Below w.heap.size w Wv) ⟨(((Bx.at_ (by simp)).alloc _)), ((Bx.at_ (by simp))), (((Below.refl _ w).alloc (by simp <;> omega) _).alloc (by simp <;> omega) _)⟩ ?_
      rintro wa1 ⟨g1, g2, b⟩
      replace B := B.trans (b.mono B.size); clear b
      have c_g1 := g1.cell; have f_g1 := g1.free; have a_g1 := fun o => (g1.alloc o).cell; have d_g1 := fun o o2 => ((g1.alloc o).alloc o2).cell; have e_g1 := fun o => (g1.alloc o).free
      have c_g2 := g2.cell; have f_g2 := g2.free; have a_g2 := fun o => (g2.alloc o).cell; have d_g2 := fun o o2 => ((g2.alloc o).alloc o2).cell; have e_g2 := fun o => (g2.alloc o).free
      go_wp2
      go_ret
      exact ⟨rfl, B⟩
theorem enter_copied (x : Value) (W : World) : (callFunc 121 (#[] ++ #[x] ++ #[])).run Try.prog W = .ok (.enter 121 #[x]) W := by
  simp [go_sem]
structure GMod where
  t : Value
  o : Value
  s : Value
  W1 : World
def GMod.val (g : GMod) : Value := .agg #[g.t, g.o, g.s]
def wsC (w : World) (p : Nat) (g : GMod) : Nat → World
  | 0 => w.drew
  | 1 => g.W1
  | _ => ((g.W1.setCell ⟨p, 0, none⟩ g.t).setCell ⟨p, 1, none⟩ g.o).setCell ⟨p, 2, none⟩ g.s
set_option maxRecDepth 100000 in
set_option maxHeartbeats 4000000 in
theorem open20_no (tv ov sv : Value) (m : Mo) (sl g : Int) (r : Int) (hr : r = asked m sl g) (h0 : r ≠ 0) (w : World) (h : Mod w tv ov sv m) :
    Calls Try.prog 83 #[.agg #[tv, ov, sv], .agg #[.int .i64 sl, .int .i64 g]] w fun e w' => e = .returned (.tuple #[.agg #[.slice none 0 0, .slice none 0 0, .slice none 0 0], .int .i64 0, .int .i64 r]) ∧ Below w.heap.size w w' := by
  have B : Below w.heap.size w w := Below.refl _ _
  obtain ⟨c, hc⟩ : ∃ c, c = chk m := ⟨_, rfl⟩
  have CT := Lib.hid (fun w h => Check20_any tv ov sv m c hc w h)
  have H := Lib.hid h
  by_cases hc0 : c = 0
  · have hr1 : r = rightErr m.slots sl g := by rw [hr, asked_eq (by rw [← hc]; exact hc0)]
    have FT := Lib.hid (fun w h => find20_any tv ov sv m sl g r hr1 w h)
    have hne : (r != 0) = true := by rw [bne_iff_ne]; exact h0
    subst hc0
    clear hr hr1 h hc h0
    go_enter Try.func83, Try.ntmps83
    go_upto_region 1 with (fail)
    refine wp_gen (fun Wv => Bx Wv (w.heap.size) (87) (#[tv, ov, sv]) ∧ Bx Wv (w.heap.size + 1) (24) (#[.int .i64 sl, .int .i64 g]) ∧ Bx Wv (w.heap.size + 1 + 1) (87) (#[.slice none 0 0, .slice none 0 0, .slice none 0 0]) ∧ Below w.heap.size w Wv) ⟨((((Bx.at_ (by simp)).alloc _).alloc _)), (((Bx.at_ (by simp)).alloc _)), ((Bx.at_ (by simp))), ((((Below.refl _ w).alloc (by simp <;> omega) _).alloc (by simp <;> omega) _).alloc (by simp <;> omega) _)⟩ ?_
    rintro wa1 ⟨g1, g2, g3, b⟩
    replace B := B.trans (b.mono B.size); clear b
    have c_g1 := g1.cell; have f_g1 := g1.free; have a_g1 := fun o => (g1.alloc o).cell; have d_g1 := fun o o2 => ((g1.alloc o).alloc o2).cell; have e_g1 := fun o => (g1.alloc o).free
    have c_g2 := g2.cell; have f_g2 := g2.free; have a_g2 := fun o => (g2.alloc o).cell; have d_g2 := fun o o2 => ((g2.alloc o).alloc o2).cell; have e_g2 := fun o => (g2.alloc o).free
    have c_g3 := g3.cell; have f_g3 := g3.free; have a_g3 := fun o => (g3.alloc o).cell; have d_g3 := fun o o2 => ((g3.alloc o).alloc o2).cell; have e_g3 := fun o => (g3.alloc o).free
    go_wp2_with fail
    refine (CT.out _ (H.out.below B)).mono ?_
    rintro e wa2 ⟨rfl, b⟩
    try clear c_g1 f_g1 a_g1 d_g1 e_g1
    replace g1 := g1.below b; have c_g1 := g1.cell; have f_g1 := g1.free; have a_g1 := fun o => (g1.alloc o).cell; have d_g1 := fun o o2 => ((g1.alloc o).alloc o2).cell; have e_g1 := fun o => (g1.alloc o).free; try clear c_g2 f_g2 a_g2 d_g2 e_g2
    replace g2 := g2.below b; have c_g2 := g2.cell; have f_g2 := g2.free; have a_g2 := fun o => (g2.alloc o).cell; have d_g2 := fun o o2 => ((g2.alloc o).alloc o2).cell; have e_g2 := fun o => (g2.alloc o).free; try clear c_g3 f_g3 a_g3 d_g3 e_g3
    replace g3 := g3.below b; have c_g3 := g3.cell; have f_g3 := g3.free; have a_g3 := fun o => (g3.alloc o).cell; have d_g3 := fun o o2 => ((g3.alloc o).alloc o2).cell; have e_g3 := fun o => (g3.alloc o).free; replace B := B.trans (b.mono B.size); clear b
    go_wp2_with fail
    refine (FT.out _ (H.out.below B)).mono ?_
    rintro e wa3 ⟨rfl, b⟩
    try clear c_g1 f_g1 a_g1 d_g1 e_g1
    replace g1 := g1.below b; have c_g1 := g1.cell; have f_g1 := g1.free; have a_g1 := fun o => (g1.alloc o).cell; have d_g1 := fun o o2 => ((g1.alloc o).alloc o2).cell; have e_g1 := fun o => (g1.alloc o).free; try clear c_g2 f_g2 a_g2 d_g2 e_g2
    replace g2 := g2.below b; have c_g2 := g2.cell; have f_g2 := g2.free; have a_g2 := fun o => (g2.alloc o).cell; have d_g2 := fun o o2 => ((g2.alloc o).alloc o2).cell; have e_g2 := fun o => (g2.alloc o).free; try clear c_g3 f_g3 a_g3 d_g3 e_g3
    replace g3 := g3.below b; have c_g3 := g3.cell; have f_g3 := g3.free; have a_g3 := fun o => (g3.alloc o).cell; have d_g3 := fun o o2 => ((g3.alloc o).alloc o2).cell; have e_g3 := fun o => (g3.alloc o).free; replace B := B.trans (b.mono B.size); clear b
    go_wp2
    refine bodyPost_ret (v := .tuple #[.agg #[.slice none 0 0, .slice none 0 0, .slice none 0 0], .int .i64 0, .int .i64 r]) (by simp [results, Try.results83, go_sem, c_g1, f_g1, a_g1, e_g1, c_g2, f_g2, a_g2, e_g2, c_g3, f_g3, a_g3, e_g3]) rfl ?_
    refine ⟨rfl, ?_⟩
    (repeat (first | refine Below.setCell ?_ (by first | exact Nat.le_refl _ | (simp <;> omega)) _ | refine Below.alloc ?_ (by first | exact B.size | (have := B.size; simp <;> omega)) _)); exact B
  · have hr1 : r = c := by rw [hr, asked_no (by rw [← hc]; exact hc0), hc]
    have hne : (c != 0) = true := by rw [bne_iff_ne]; exact hc0
    subst hr1
    clear hr h hc h0 hc0
    go_enter Try.func83, Try.ntmps83
    go_upto_region 1 with (fail)
    refine wp_gen (fun Wv => Bx Wv (w.heap.size) (87) (#[tv, ov, sv]) ∧ Bx Wv (w.heap.size + 1) (24) (#[.int .i64 sl, .int .i64 g]) ∧ Bx Wv (w.heap.size + 1 + 1) (87) (#[.slice none 0 0, .slice none 0 0, .slice none 0 0]) ∧ Below w.heap.size w Wv) ⟨((((Bx.at_ (by simp)).alloc _).alloc _)), (((Bx.at_ (by simp)).alloc _)), ((Bx.at_ (by simp))), ((((Below.refl _ w).alloc (by simp <;> omega) _).alloc (by simp <;> omega) _).alloc (by simp <;> omega) _)⟩ ?_
    rintro wa1 ⟨g1, g2, g3, b⟩
    replace B := B.trans (b.mono B.size); clear b
    have c_g1 := g1.cell; have f_g1 := g1.free; have a_g1 := fun o => (g1.alloc o).cell; have d_g1 := fun o o2 => ((g1.alloc o).alloc o2).cell; have e_g1 := fun o => (g1.alloc o).free
    have c_g2 := g2.cell; have f_g2 := g2.free; have a_g2 := fun o => (g2.alloc o).cell; have d_g2 := fun o o2 => ((g2.alloc o).alloc o2).cell; have e_g2 := fun o => (g2.alloc o).free
    have c_g3 := g3.cell; have f_g3 := g3.free; have a_g3 := fun o => (g3.alloc o).cell; have d_g3 := fun o o2 => ((g3.alloc o).alloc o2).cell; have e_g3 := fun o => (g3.alloc o).free
    go_wp2_with fail
    refine (CT.out _ (H.out.below B)).mono ?_
    rintro e wa2 ⟨rfl, b⟩
    try clear c_g1 f_g1 a_g1 d_g1 e_g1
    replace g1 := g1.below b; have c_g1 := g1.cell; have f_g1 := g1.free; have a_g1 := fun o => (g1.alloc o).cell; have d_g1 := fun o o2 => ((g1.alloc o).alloc o2).cell; have e_g1 := fun o => (g1.alloc o).free; try clear c_g2 f_g2 a_g2 d_g2 e_g2
    replace g2 := g2.below b; have c_g2 := g2.cell; have f_g2 := g2.free; have a_g2 := fun o => (g2.alloc o).cell; have d_g2 := fun o o2 => ((g2.alloc o).alloc o2).cell; have e_g2 := fun o => (g2.alloc o).free; try clear c_g3 f_g3 a_g3 d_g3 e_g3
    replace g3 := g3.below b; have c_g3 := g3.cell; have f_g3 := g3.free; have a_g3 := fun o => (g3.alloc o).cell; have d_g3 := fun o o2 => ((g3.alloc o).alloc o2).cell; have e_g3 := fun o => (g3.alloc o).free; replace B := B.trans (b.mono B.size); clear b
    go_wp2
    refine bodyPost_ret (v := .tuple #[.agg #[.slice none 0 0, .slice none 0 0, .slice none 0 0], .int .i64 0, .int .i64 r]) (by simp [results, Try.results83, go_sem, c_g1, f_g1, a_g1, e_g1, c_g2, f_g2, a_g2, e_g2, c_g3, f_g3, a_g3, e_g3]) rfl ?_
    refine ⟨rfl, ?_⟩
    (repeat (first | refine Below.setCell ?_ (by first | exact Nat.le_refl _ | (simp <;> omega)) _ | refine Below.alloc ?_ (by first | exact B.size | (have := B.size; simp <;> omega)) _)); exact B
theorem OwnM.forms {w : World} {B E : Nat} {tv ov sv : Value} {m : Mo} (h : OwnM w B E tv ov sv m) : (∃ A n c, tv = .slice A n c) ∧ (∃ A n c, ov = .slice A n c) ∧ ∃ A n c, sv = .slice A n c := by
  obtain ⟨⟨_, _, z2, _⟩, ⟨_, _, y2, _⟩, s⟩ := h
  obtain ⟨A, c, e⟩ := own_form' z2; obtain ⟨A', c', e'⟩ := own_form' y2; obtain ⟨A'', c'', e''⟩ := own_form' s
  exact ⟨⟨A, _, c, e⟩, ⟨A', _, c', e'⟩, ⟨A'', _, c'', e''⟩⟩
set_option maxRecDepth 100000 in
set_option maxHeartbeats 4000000 in
theorem open20_ok (tv ov sv : Value) (m : Mo) (sl g : Int) (n : Nat) (h0 : asked m sl g = 0) (hn : own m sl = n) (w : World) (h : Mod w tv ov sv m) :
    Calls Try.prog 83 #[.agg #[tv, ov, sv], .agg #[.int .i64 sl, .int .i64 g]] w fun e w' => ∃ tv' ov' sv', e = .returned (.tuple #[.agg #[tv', ov', sv'], .int .i64 n, .int .i64 0]) ∧ OwnM w' w.heap.size 55 tv' ov' sv' m ∧ Below w.heap.size w w' := by
  have B : Below w.heap.size w w := Below.refl _ _
  obtain ⟨c0, hr0, k, s, n', o, t, hk, hk16, hs, hu, hg, hso, hat, hown, _⟩ := asked_ok h0
  obtain rfl : n' = n := by rw [← hown, hn]
  subst hk
  have CT := Lib.hid (fun w h => Check20_any tv ov sv m 0 c0.symm w h)
  have FT := Lib.hid (fun w h => find20_any tv ov sv m k g 0 hr0.symm w h)
  have CP := Lib.hid (fun w h => copied_any tv ov sv m (small_chk c0) w h)
  have hkl : k < m.slots.length := (List.getElem?_eq_some_iff.1 hs).1
  obtain ⟨b, q, s', ia, m0, m1, m2, hs'⟩ := h.s.at_ (P := Try.prog) Try.underlying50 size_slot hkl
  obtain rfl : s' = s := by have := hs'.out; rw [hs] at this; injection this with this; exact this.symm
  rw [hat] at m2
  have H := Lib.hid h
  clear h0 hr0 hs hs' hu hg hso hat hown hn c0 h m0 m1 hkl
  go_enter Try.func83, Try.ntmps83
  go_upto_region 1 with (fail)
  refine wp_gen (fun Wv => Bx Wv (w.heap.size) (87) (#[tv, ov, sv]) ∧ Bx Wv (w.heap.size + 1) (24) (#[.int .i64 k, .int .i64 g]) ∧ Bx Wv (w.heap.size + 1 + 1) (87) (#[.slice none 0 0, .slice none 0 0, .slice none 0 0]) ∧ Below w.heap.size w Wv) ⟨((((Bx.at_ (by simp)).alloc _).alloc _)), (((Bx.at_ (by simp)).alloc _)), ((Bx.at_ (by simp))), ((((Below.refl _ w).alloc (by simp <;> omega) _).alloc (by simp <;> omega) _).alloc (by simp <;> omega) _)⟩ ?_
  rintro wa1 ⟨g1, g2, g3, b⟩
  replace B := B.trans (b.mono B.size); clear b
  have c_g1 := g1.cell; have f_g1 := g1.free; have a_g1 := fun o => (g1.alloc o).cell; have d_g1 := fun o o2 => ((g1.alloc o).alloc o2).cell; have e_g1 := fun o => (g1.alloc o).free
  have c_g2 := g2.cell; have f_g2 := g2.free; have a_g2 := fun o => (g2.alloc o).cell; have d_g2 := fun o o2 => ((g2.alloc o).alloc o2).cell; have e_g2 := fun o => (g2.alloc o).free
  have c_g3 := g3.cell; have f_g3 := g3.free; have a_g3 := fun o => (g3.alloc o).cell; have d_g3 := fun o o2 => ((g3.alloc o).alloc o2).cell; have e_g3 := fun o => (g3.alloc o).free
  go_wp2_with fail
  refine (CT.out _ (H.out.below B)).mono ?_
  rintro e wa2 ⟨rfl, b⟩
  try clear c_g1 f_g1 a_g1 d_g1 e_g1
  replace g1 := g1.below b; have c_g1 := g1.cell; have f_g1 := g1.free; have a_g1 := fun o => (g1.alloc o).cell; have d_g1 := fun o o2 => ((g1.alloc o).alloc o2).cell; have e_g1 := fun o => (g1.alloc o).free; try clear c_g2 f_g2 a_g2 d_g2 e_g2
  replace g2 := g2.below b; have c_g2 := g2.cell; have f_g2 := g2.free; have a_g2 := fun o => (g2.alloc o).cell; have d_g2 := fun o o2 => ((g2.alloc o).alloc o2).cell; have e_g2 := fun o => (g2.alloc o).free; try clear c_g3 f_g3 a_g3 d_g3 e_g3
  replace g3 := g3.below b; have c_g3 := g3.cell; have f_g3 := g3.free; have a_g3 := fun o => (g3.alloc o).cell; have d_g3 := fun o o2 => ((g3.alloc o).alloc o2).cell; have e_g3 := fun o => (g3.alloc o).free; replace B := B.trans (b.mono B.size); clear b
  go_wp2_with fail
  refine (FT.out _ (H.out.below B)).mono ?_
  rintro e wa3 ⟨rfl, b⟩
  try clear c_g1 f_g1 a_g1 d_g1 e_g1
  replace g1 := g1.below b; have c_g1 := g1.cell; have f_g1 := g1.free; have a_g1 := fun o => (g1.alloc o).cell; have d_g1 := fun o o2 => ((g1.alloc o).alloc o2).cell; have e_g1 := fun o => (g1.alloc o).free; try clear c_g2 f_g2 a_g2 d_g2 e_g2
  replace g2 := g2.below b; have c_g2 := g2.cell; have f_g2 := g2.free; have a_g2 := fun o => (g2.alloc o).cell; have d_g2 := fun o o2 => ((g2.alloc o).alloc o2).cell; have e_g2 := fun o => (g2.alloc o).free; try clear c_g3 f_g3 a_g3 d_g3 e_g3
  replace g3 := g3.below b; have c_g3 := g3.cell; have f_g3 := g3.free; have a_g3 := fun o => (g3.alloc o).cell; have d_g3 := fun o o2 => ((g3.alloc o).alloc o2).cell; have e_g3 := fun o => (g3.alloc o).free; replace B := B.trans (b.mono B.size); clear b
  go_upto_region 7 with (fail)
  have HG := Lib.hid (And.intro g1 (And.intro g2 (And.intro g3 B)))
  have hB := B.size
  clear c_g1 c_g2 f_g1 f_g2 a_g1 a_g2 d_g1 d_g2 e_g1 e_g2 c_g3 f_g3 a_g3 d_g3 e_g3
  refine wp_region_G (val := GMod.val) (V := fun g => OwnM g.W1 wa3.heap.size 55 g.t g.o g.s m ∧ Below wa3.heap.size wa3 g.W1)
    (F := fun g => FL [1, 9] (wsC wa3 (w.heap.size + 1 + 1) g) 1 2) [1, 1, 9] 1 ⟨undef, undef, undef, wa3⟩ 121 #[.agg #[tv, ov, sv]] (fun g => FL.dep) (by kernel_rfl) (by kernel_rfl) (by kernel_rfl) (fun g g' φ W hφ hF => FL.agree (Ws := wsC wa3 (w.heap.size + 1 + 1) g) (Ws' := wsC wa3 (w.heap.size + 1 + 1) g') (k0 := 1) rfl rfl hφ hF) FL.start (by decide) ?_ ?_
  · intro φ W hφ hF
    obtain ⟨rfl, _⟩ := FL.step (i := 0) rfl (by decide) hF hφ (by intro p hp; omega) (by omega)
    refine (CP.out wa3.drew (H.out.below B.drew)).mono ?_
    rintro e W1 ⟨t', o', s', rfl, om, b1⟩
    have b1' : Below wa3.heap.size wa3 W1 := (Below.refl _ wa3).drew.trans b1
    have hF' := FL.agree (Ws := wsC wa3 (w.heap.size + 1 + 1) ⟨undef, undef, undef, wa3⟩) (Ws' := wsC wa3 (w.heap.size + 1 + 1) ⟨t', o', s', W1⟩) (k0 := 1) rfl rfl hφ hF
    exact ⟨⟨t', o', s', W1⟩, ⟨om, b1'⟩, rfl, (FL.step (i := 0) rfl (by decide) hF' hφ (by intro p hp; omega) (by omega)).2⟩
  · rintro ⟨t', o', s', W1⟩ ⟨om, b1⟩
    dsimp only at om b1 ⊢
    obtain ⟨⟨tA, tn, tc, rfl⟩, ⟨oA, on, oc, rfl⟩, ⟨sA, sn, sc, rfl⟩⟩ := om.forms
    have r3 := g3.below b1
    have AL : ∀ d, d ≤ 2 → Below w.heap.size w (wsC wa3 (w.heap.size + 1 + 1) ⟨.slice tA tn tc, .slice oA on oc, .slice sA sn sc, W1⟩ d) ∧ Bx (wsC wa3 (w.heap.size + 1 + 1) ⟨.slice tA tn tc, .slice oA on oc, .slice sA sn sc, W1⟩ d) w.heap.size 87 #[tv, ov, sv] ∧ Bx (wsC wa3 (w.heap.size + 1 + 1) ⟨.slice tA tn tc, .slice oA on oc, .slice sA sn sc, W1⟩ d) (w.heap.size + 1) 24 #[.int .i64 k, .int .i64 g] := by
      intro d hd
      rcases d with _ | _ | d
      · exact ⟨B.drew, g1, g2⟩
      · exact ⟨B.trans (b1.mono hB), g1.below b1, g2.below b1⟩
      · refine ⟨?_, ?_, ?_⟩
        · exact (((B.trans (b1.mono hB)).setCell (p := ⟨w.heap.size + 1 + 1, 0, none⟩) (by simp; omega) _).setCell (p := ⟨w.heap.size + 1 + 1, 1, none⟩) (by simp; omega) _).setCell (p := ⟨w.heap.size + 1 + 1, 2, none⟩) (by simp; omega) _
        · exact (((g1.below b1).far (p := ⟨w.heap.size + 1 + 1, 0, none⟩) (by show _ ≠ w.heap.size + 1 + 1; omega) _).far (p := ⟨w.heap.size + 1 + 1, 1, none⟩) (by show _ ≠ w.heap.size + 1 + 1; omega) _).far (p := ⟨w.heap.size + 1 + 1, 2, none⟩) (by show _ ≠ w.heap.size + 1 + 1; omega) _
        · exact (((g2.below b1).far (p := ⟨w.heap.size + 1 + 1, 0, none⟩) (by show _ ≠ w.heap.size + 1 + 1; omega) _).far (p := ⟨w.heap.size + 1 + 1, 1, none⟩) (by show _ ≠ w.heap.size + 1 + 1; omega) _).far (p := ⟨w.heap.size + 1 + 1, 2, none⟩) (by show _ ≠ w.heap.size + 1 + 1; omega) _
    have AA := Lib.hid (fun x : FXN (FL [1, 9] (wsC wa3 (w.heap.size + 1 + 1) ⟨.slice tA tn tc, .slice oA on oc, .slice sA sn sc, W1⟩) 1 2) => FL.all (ks := [1, 9]) (Ws := wsC wa3 (w.heap.size + 1 + 1) ⟨.slice tA tn tc, .slice oA on oc, .slice sA sn sc, W1⟩) (p := fun W => Below w.heap.size w W ∧ Bx W w.heap.size 87 #[tv, ov, sv] ∧ Bx W (w.heap.size + 1) 24 #[.int .i64 k, .int .i64 g]) AL x)
    have ca := fun x : FXN (FL [1, 9] (wsC wa3 (w.heap.size + 1 + 1) ⟨.slice tA tn tc, .slice oA on oc, .slice sA sn sc, W1⟩) 1 2) => (AA.out x).2.1.cell
    have cb := fun x : FXN (FL [1, 9] (wsC wa3 (w.heap.size + 1 + 1) ⟨.slice tA tn tc, .slice oA on oc, .slice sA sn sc, W1⟩) 1 2) => (AA.out x).2.2.cell
    have cc := fun x : FXN (FL [1, 9] (wsC wa3 (w.heap.size + 1 + 1) ⟨.slice tA tn tc, .slice oA on oc, .slice sA sn sc, W1⟩) 1 2) => cell_later (AA.out x).1 m2
    haveI : Nonempty (FXN (FL [1, 9] (wsC wa3 (w.heap.size + 1 + 1) ⟨.slice tA tn tc, .slice oA on oc, .slice sA sn sc, W1⟩) 1 2)) := ⟨⟨_, _, FL.start⟩⟩
    refine wpG_read FL.dep rfl (by decide) (by decide) ?_; go_big_quiet_step (fail); refine wpQuiet_nil ?_
    refine wpG_call #[.agg #[tv, ov, sv]] rfl (by simp [Act.eval]) (enter_copied _) ?_
    simp only [Act.put, List.setIfInBounds_toArray, List.set_cons_zero, List.set_cons_succ]
    iterate 7 (refine wpG_read FL.dep rfl (by decide) (by decide) ?_; go_big_quiet_step (fail); refine wpQuiet_nil ?_)
    have c3 := r3.cell; have f3 := r3.free
    refine wpG_store FL.dep (by decide) rfl 87 (.tmp 4) (.tmp 23) rfl (by rfl) (p := .pointer (some ⟨w.heap.size + 1 + 1, 0, none⟩)) (u := .agg #[.slice tA tn tc, .slice oA on oc, .slice sA sn sc]) (by rfl) (by rfl) [1] (by kernel_rfl) (fun f W hF h0 h1 => ?_) ?_
    · obtain ⟨rfl, h2⟩ := FL.step (i := 1) rfl (by decide) hF h0 (FL.prev (p := 0) (q := 1) rfl (h1 1 (by simp))) (by omega)
      refine ⟨_, ?_, h2⟩
      simp [go_sem, wsC, c3, f3]
    simp only [Act.put, List.setIfInBounds_toArray, List.set_cons_zero, List.set_cons_succ]
    iterate 2 (refine wpG_read FL.dep rfl (by decide) (by decide) ?_; go_big_quiet_step (fail); refine wpQuiet_nil ?_)
    refine wpG_nil ?_
    intro w' hw'
    obtain rfl := FL.done hw'
    have HM := Lib.hid (OwnM.set3 (a := .slice tA tn tc) (b := .slice oA on oc) (c := .slice sA sn sc) (om.mono hB) r3)
    have BB := Lib.hid (AL 2 (Nat.le_refl _)).1
    have g3' : Bx ((((W1.setCell ⟨w.heap.size + 1 + 1, 0, none⟩ (.slice tA tn tc)).setCell ⟨w.heap.size + 1 + 1, 1, none⟩ (.slice oA on oc)).setCell ⟨w.heap.size + 1 + 1, 2, none⟩ (.slice sA sn sc))) (w.heap.size + 1 + 1) 87 #[.slice tA tn tc, .slice oA on oc, .slice sA sn sc] := by
      have := ((r3.set (i := 0) (.slice tA tn tc)).set (i := 1) (.slice oA on oc)).set (i := 2) (.slice sA sn sc)
      simpa using this
    have c3' := g3'.cell
    clear this ca cb cc c3 f3 AL AA om b1 g1 g2 g3 B r3 hw'
    show _
    generalize hW : (((W1.setCell ⟨w.heap.size + 1 + 1, 0, none⟩ (.slice tA tn tc)).setCell ⟨w.heap.size + 1 + 1, 1, none⟩ (.slice oA on oc)).setCell ⟨w.heap.size + 1 + 1, 2, none⟩ (.slice sA sn sc)) = W4 at c3' HM
    have hw4 : wsC wa3 (w.heap.size + 1 + 1) ⟨.slice tA tn tc, .slice oA on oc, .slice sA sn sc, W1⟩ [1, 9].length = W4 := hW
    rw [hw4]
    have BB2 := BB.out
    rw [show wsC wa3 (w.heap.size + 1 + 1) ⟨.slice tA tn tc, .slice oA on oc, .slice sA sn sc, W1⟩ 2 = W4 from hW] at BB2
    have BB3 := Lib.hid BB2
    clear hW hw4 BB BB2 g3'
    go_wp2
    refine bodyPost_ret (v := .tuple #[.agg #[.slice tA tn tc, .slice oA on oc, .slice sA sn sc], .int .i64 n', .int .i64 0]) (by simp [results, Try.results83, go_sem, c3']) rfl ?_
    exact ⟨_, _, _, rfl, HM.out, BB3.out⟩
end Go.Proofs.Ytiiilaojllmmiaa
namespace Go.Proofs.Ytiiilaojllmmiaa
open Go.RowKit L02 L13 L18 L20
theorem tabL_set (S : List Sl) (k : Nat) (s : Sl) (hk : k < S.length) : (((tabL S).set (k * 3) (.int .i64 s.gen)).set (k * 3 + 1) (.bool s.used)).set (k * 3 + 2) (.int .i64 s.at_) = tabL (S.set k s) := by
  apply List.ext_getElem?
  intro i
  by_cases hi : i < S.length * 3
  · obtain ⟨q, r, hr, rfl⟩ : ∃ q r, r < 3 ∧ i = q * 3 + r := ⟨i / 3, i % 3, Nat.mod_lt _ (by omega), by omega⟩
    have hq : q < S.length := by omega
    by_cases hqk : q = k
    · subst hqk
      have h1 := tabL_get (S.set q s) q s (by simp [hq]) r hr
      rw [h1]
      have hl : (tabL S).length = S.length * 3 := tabL_len S
      have : r = 0 ∨ r = 1 ∨ r = 2 := by omega
      rcases this with rfl | rfl | rfl
      · rw [List.getElem?_set_ne (by omega), List.getElem?_set_ne (by omega), Nat.add_zero, List.getElem?_set_self (by omega)]; rfl
      · rw [List.getElem?_set_ne (by omega), List.getElem?_set_self (by simp; omega)]; rfl
      · rw [List.getElem?_set_self (by simp; omega)]; rfl
    · have hs : S[q]? = some S[q] := List.getElem?_eq_getElem hq
      have h1 := tabL_get (S.set k s) q S[q] (by rw [List.getElem?_set_ne (Ne.symm hqk)]; exact hs) r hr
      have h2 := tabL_get S q S[q] hs r hr
      rw [h1, List.getElem?_set_ne (by omega), List.getElem?_set_ne (by omega), List.getElem?_set_ne (by omega), h2]
  · rw [List.getElem?_eq_none (by simp [tabL_len]; omega), List.getElem?_eq_none (by simp [tabL_len]; omega)]
/-- one slot is stored -/
theorem OwnS.put3 {w : World} {B E g n c k : Nat} {S : List Sl} (h : OwnS w B E (.slice (some ⟨g, 0, none⟩) n c) S) (hk : k < S.length) (s : Sl) :
    OwnS (((w.setCell ⟨g, k * 3, none⟩ (.int .i64 s.gen)).setCell ⟨g, k * 3 + 1, none⟩ (.bool s.used)).setCell ⟨g, k * 3 + 2, none⟩ (.int .i64 s.at_)) B E (.slice (some ⟨g, 0, none⟩) n c) (S.set k s) ∧
      w.grownBy (((w.setCell ⟨g, k * 3, none⟩ (.int .i64 s.gen)).setCell ⟨g, k * 3 + 1, none⟩ (.bool s.used)).setCell ⟨g, k * 3 + 2, none⟩ (.int .i64 s.at_)) (some g) ∧ B ≤ g ∧ g < w.heap.size ∧ ∀ j, w.frozen? ⟨g, j, none⟩ = false := by
  have hn : n = S.length := by
    obtain ⟨g', cap, cur, hv, _⟩ := own_form h (by omega)
    injection hv
  subst hn
  have h1 := World.ownsRow.stored h (k * 3) (.int .i64 s.gen)
  have h2 := World.ownsRow.stored h1.1 (k * 3 + 1) (.bool s.used)
  have h3 := World.ownsRow.stored h2.1 (k * 3 + 2) (.int .i64 s.at_)
  have hl := h.lt g rfl
  refine ⟨?_, ⟨rfl, rfl, rfl, ?_, fun q hq hne => ?_⟩, hl.1, hl.2, fun j => h.frozenAt j⟩
  · unfold OwnS
    rw [← tabL_set S k s hk, List.length_set]
    exact h3.1
  · simp [World.setCell]
  · exact (h3.2.block q (by simpa [World.setCell] using hq) hne).trans ((h2.2.block q (by simpa [World.setCell] using hq) hne).trans (h1.2.block q hq hne))
theorem OwnS.form {w : World} {B E : Nat} {v : Value} {S : List Sl} (h : OwnS w B E v S) (hn : 0 < S.length) : ∃ g n c, v = .slice (some ⟨g, 0, none⟩) n c ∧ n = S.length := by
  obtain ⟨g, cap, cur, hv, _⟩ := own_form h hn
  exact ⟨g, _, cap, hv, rfl⟩
theorem OwnS.cells {w : World} {B E g n c k : Nat} {S : List Sl} {s : Sl} (h : OwnS w B E (.slice (some ⟨g, 0, none⟩) n c) S) (hs : S[k]? = some s) :
    (∀ W, (Instr.indexAt 50 (.slice (some ⟨g, 0, none⟩) n c) (.int .i64 (k : Int))).run Try.prog W = .ok (.pointer (some ⟨g, k * 3, none⟩)) W) ∧ w.cell? ⟨g, k * 3, none⟩ = some (.int .i64 s.gen) ∧ w.cell? ⟨g, k * 3 + 1, none⟩ = some (.bool s.used) ∧ w.cell? ⟨g, k * 3 + 2, none⟩ = some (.int .i64 s.at_) := by
  have hk : k < S.length := (List.getElem?_eq_some_iff.1 hs).1
  have t0 := Rd.cell (OwnS.rd h) (tabL_get S k s hs 0 (by omega))
  have t1 := Rd.cell (OwnS.rd h) (tabL_get S k s hs 1 (by omega))
  have t2 := Rd.cell (OwnS.rd h) (tabL_get S k s hs 2 (by omega))
  refine ⟨fun W => ?_, ?_, ?_, ?_⟩
  · have := Rd.ixN (P := Try.prog) (OwnS.rd h) Try.underlying50 size_slot hk W
    simpa [cellAt] using this
  · simpa [cellAt] using t0
  · simpa [cellAt] using t1
  · simpa [cellAt] using t2
/-- a model's own slots changed, all else kept -/
theorem OwnM.slots {w W : World} {B g n c : Nat} {tv ov : Value} {m : Mo} {S : List Sl} (h : OwnM w B 55 tv ov (.slice (some ⟨g, 0, none⟩) n c) m) (hg : w.grownBy W (some g)) (hS : OwnS W B 55 (.slice (some ⟨g, 0, none⟩) n c) S) :
    OwnM W B 55 tv ov (.slice (some ⟨g, 0, none⟩) n c) ⟨m.types, m.objs, S⟩ := by
  refine ⟨OwnT.kept h.t h.s hg (by decide) (by decide), ?_, hS⟩
  obtain ⟨vs, a1, a2, a4, a5⟩ := h.o
  exact ⟨vs, a1, World.ownsRow.kept a2 hg (own_unlike a2 h.s (by decide)), fun i x l h5 h6 => World.ownsRow.kept (a4 i x l h5 h6) hg (own_unlike (a4 i x l h5 h6) h.s (by decide)), a5⟩
/-- all old blocks but one are as they were -/
def Keep (w w' : World) (row : Option Nat) : Prop := w.heap.size ≤ w'.heap.size ∧ ∀ k, k < w.heap.size → some k ≠ row → w'.heap[k]? = w.heap[k]?
theorem Keep.grown {w w' w'' : World} {row : Option Nat} (h : Keep w w' row) (hg : w'.grownBy w'' row) : Keep w w'' row := ⟨Nat.le_trans h.1 hg.size, fun k hk hr => (hg.block k (Nat.lt_of_lt_of_le hk h.1) hr).trans (h.2 k hk hr)⟩
theorem Keep.setCell {w w' : World} {row : Option Nat} (h : Keep w w' row) {p : Addr} (hp : w.heap.size ≤ p.block) (u : Value) : Keep w (w'.setCell p u) row :=
  ⟨by simpa [World.setCell] using h.1, fun k hk hr => (Below.heap_setCell w' p u k (by omega)).trans (h.2 k hk hr)⟩
theorem Bx.keep {w w' : World} {g : Nat} {t : TypeId} {cs : Array Value} {row : Option Nat} (h : Bx w g t cs) (hk : Keep w w' row) (hne : row = none ∨ row ≠ some g) : Bx w' g t cs := by
  have hl := h.lt
  unfold Bx at *
  rw [hk.2 g hl (by rcases hne with rfl | h; · simp
                    · exact fun e => h e.symm)]
  exact h
end Go.Proofs.Ytiiilaojllmmiaa
namespace Go.Proofs.Ytiiilaojllmmiaa
open Go.RowKit L02 L13 L18 L20
/-- the number of a slot is stored -/
theorem OwnS.put1 {w : World} {B E g n c k : Nat} {S : List Sl} {s : Sl} (h : OwnS w B E (.slice (some ⟨g, 0, none⟩) n c) S) (hs : S[k]? = some s) (a : Int) :
    OwnS (w.setCell ⟨g, k * 3 + 2, none⟩ (.int .i64 a)) B E (.slice (some ⟨g, 0, none⟩) n c) (S.set k ⟨s.gen, s.used, a⟩) ∧
      w.grownBy (w.setCell ⟨g, k * 3 + 2, none⟩ (.int .i64 a)) (some g) ∧ B ≤ g ∧ g < w.heap.size ∧ ∀ j, w.frozen? ⟨g, j, none⟩ = false := by
  have hk : k < S.length := (List.getElem?_eq_some_iff.1 hs).1
  have hn : n = S.length := by
    obtain ⟨g', cap, cur, hv, _⟩ := own_form h (by omega)
    injection hv
  subst hn
  have h3 := World.ownsRow.stored h (k * 3 + 2) (.int .i64 a)
  have hl := h.lt g rfl
  have hsame : ∀ i : Nat, i < 3 → ∀ u, (slC s)[i]? = some u → (tabL S).set (k * 3 + i) u = tabL S := by
    intro i hi u hu
    have t0 := tabL_get S k s hs i hi
    rw [hu] at t0
    apply List.ext_getElem?
    intro j
    by_cases hj : j = k * 3 + i
    · subst hj
      rw [List.getElem?_set_self (List.getElem?_eq_some_iff.1 t0).1, t0]
    · rw [List.getElem?_set_ne (Ne.symm hj)]
  have h0 := hsame 0 (by omega) (.int .i64 s.gen) rfl
  have h1 := hsame 1 (by omega) (.bool s.used) rfl
  rw [Nat.add_zero] at h0
  refine ⟨?_, h3.2, hl.1, hl.2, fun j => h.frozenAt j⟩
  unfold OwnS
  rw [← tabL_set S k ⟨s.gen, s.used, a⟩ hk, List.length_set]
  show World.ownsRow _ _ _ _ _ _ ((((tabL S).set (k * 3) (.int .i64 s.gen)).set (k * 3 + 1) (.bool s.used)).set (k * 3 + 2) (.int .i64 a))
  rw [h0, h1]
  exact h3.1
theorem own_ne_bx {w : World} {B e sz n n' p g c : Nat} {xs : List Value} {t : TypeId} {cs : Array Value} (h : w.ownsRow B e sz (.slice (some ⟨g, 0, none⟩) n c) n' xs) (hg : Bx w p t cs) (hne : e ≠ t) : g ≠ p := by
  rintro rfl
  rcases own_not_bx h hg hne with h | h
  · cases h
  · exact h rfl
end Go.Proofs.Ytiiilaojllmmiaa
namespace Go.Proofs.Ytiiilaojllmmiaa
open Go.RowKit L01 L02 L05 L06 L07 L13 L14 L15 L16 L18 L19
/-- the heap is one free extent -/
def whole (L : List Hb) : Bool := match L with | [b] => decide (b.kind = 2) | _ => false
end Go.Proofs.Ytiiilaojllmmiaa
namespace Go.Proofs.Ytiiilaojllmmiaa
open Go Go.RowKit
section
variable {P : Program} {ops : Array Oper} {w : World}
theorem wpStill_of_quiet {Q : Act → Prop} : ∀ (l : List Oper) (a : Act), wpQuiet P ops (fun W => W = w) Q l a → wpStill P ops w Q l a
  | [], a, h => h
  | o :: l, a, h => by
    unfold wpQuiet at h
    unfold wpStill
    by_cases hw : Region.wanted o (yielded ops a.tmps) = true
    · rw [if_pos hw] at h ⊢
      obtain ⟨v, h1, h2⟩ := h
      have h3 := h1 w rfl
      have h4 := wpStill_of_quiet l _ h2
      unfold Oper.quietAt at h3
      unfold Oper.still
      cases hr : (execOp a.eval o).run P w with
      | ok n w' =>
        rw [hr] at h3
        cases n with
        | value u => obtain ⟨e1, e2⟩ := h3; subst e2; exact ⟨e1, h4⟩
        | skip => obtain ⟨e1, e2⟩ := h3; subst e2; exact ⟨e1, h4⟩
        | enter f args => obtain ⟨e1, e2⟩ := h3; exact ⟨e1, v, e2, h4⟩
        | _ => exact absurd h3 id
      | halt x w' => rw [hr] at h3; exact absurd h3 id
    · rw [if_neg hw] at h ⊢
      exact wpStill_of_quiet l _ h
theorem wp_region_qtail {id : Nat} {Q : Exit → Act → World → Prop} {a : Act} {l : List Oper} (n : Nat) (hm : P.follows .mixedOrders = true) (hB : Region.lexTailB .any l.toArray n = true)
    (h : wpQuiet P l.toArray (fun W => W = w.drew) (fun a' => wpList P l.toArray Q (l.drop n) a' w.drew) (l.take n) a) : (Code.region id l.toArray true).wp P Q a w :=
  wp_region_still_tail n hm hB (wpStill_of_quiet _ _ h)
end
end Go.Proofs.Ytiiilaojllmmiaa
namespace Go.Proofs.Ytiiilaojllmmiaa
open Go.RowKit L01 L02 L05 L06 L07 L13 L14 L15 L18 L19 L20
theorem refV_idxI {O : List Hb} {v : UInt64} (h : O.length ≤ 960) : ((refV O v).toNat : Int) = idxI O v.toNat + 1 := by
  unfold refV idxI
  cases h2 : idx O v.toNat with
  | none => simp
  | some i =>
    obtain ⟨b, h3, _⟩ := idx_some h2
    have := (List.getElem?_eq_some_iff.1 h3).1
    show ((UInt64.ofNat (i + 1)).toNat : Int) = (i : Int) + 1
    rw [UInt64.toNat_ofNat', Nat.mod_eq_of_lt (by omega)]; omega
theorem slOf_used {O : List Hb} {s : Sl} (h : s.used = true) : slOf O s = ⟨s.gen, true, idxI O s.at_⟩ := by
  unfold slOf; rw [if_pos h]; rfl
theorem slOf_not {O : List Hb} {s : Sl} (h : s.used = false) : slOf O s = s := by unfold slOf; rw [h]; rfl
theorem form_T {w : World} {B : Nat} {v : Value} {L : List (List UInt8)} (h : OwnT w B v L) : ∃ A n c, v = .slice A n c := by
  obtain ⟨vs, _, h2, _⟩ := h
  obtain ⟨A, c, e⟩ := own_form' h2
  exact ⟨A, _, c, e⟩
end Go.Proofs.Ytiiilaojllmmiaa
namespace Go.Proofs.Ytiiilaojllmmiaa
open Go.RowKit L01 L02 L18
end Go.Proofs.Ytiiilaojllmmiaa
namespace Go.Proofs.Ytiiilaojllmmiaa
open Go.RowKit L01 L02 L05 L06 L07 L13 L14 L15 L18 L19 L20
end Go.Proofs.Ytiiilaojllmmiaa
namespace Go.Proofs.Ytiiilaojllmmiaa
open Go.RowKit L01 L02 L05 L06 L07 L13 L14 L15 L18 L19 L20
end Go.Proofs.Ytiiilaojllmmiaa
namespace Go.Proofs.Ytiiilaojllmmiaa
open Go.RowKit
/-- a pointer to a handle, or none -/
def PtrH (w : World) (v : Value) (tt : Option (Int × Int)) : Prop := match tt with
  | none => v = .pointer none
  | some t => ∃ g, v = .pointer (some ⟨g, 0, none⟩) ∧ Bx w g 24 #[.int .i64 t.1, .int .i64 t.2]
theorem PtrH.below {w w' : World} {v : Value} {tt : Option (Int × Int)} (h : PtrH w v tt) (hb : Below w.heap.size w w') : PtrH w' v tt := by
  cases tt with
  | none => exact h
  | some t => obtain ⟨g, h1, h2⟩ := h; exact ⟨g, h1, h2.below hb⟩
end Go.Proofs.Ytiiilaojllmmiaa
namespace Go.Proofs.Ytiiilaojllmmiaa
open Go.RowKit L01 L02 L05 L06 L07 L13 L14 L15 L18 L19 L20
theorem ent_own {w : World} {base : Nat} {a : Int} {x : UInt64} (h : base ≤ w.heap.size) : OwnE (w.alloc (.cells #[.int .i64 a, .int .u64 x.toNat] 47)) base (.slice (some ⟨w.heap.size, 0, none⟩) 1 1) [(a, x)] :=
  ⟨rfl, .inr ⟨w.heap.size, 1, #[.int .i64 a, .int .u64 x.toNat], rfl, h, blk_new w _, Nat.le_refl _, by decide, rfl, rfl⟩⟩
end Go.Proofs.Ytiiilaojllmmiaa
namespace Go.Proofs.Ytiiilaojllmmiaa.L20
open L02 L13 L18
theorem zeros_get (n i : Nat) : (List.replicate n (0 : UInt64)).getD i 0 = 0 := by
  rw [List.getD_eq_getElem?_getD, List.getElem?_replicate]; split <;> rfl
/-- what is known of an object that was allocated -/
structure Alld (m : Mo) (t : Int) (k : Nat) (g0 : Int) : Prop where
  hc : chk m = 0
  ht : 0 ≤ t ∧ t < m.types.length
  hn : m.objs.length < 960
  hk : k < 16
  hs : m.slots[k]? = some ⟨g0, false, 0⟩
  hg : 0 ≤ g0 ∧ g0 < 2147483647
  hM : allM m t = ⟨m.types, m.objs ++ [newO m t], m.slots.set k ⟨g0 + 1, true, m.objs.length⟩⟩
  hS : allS m t = k
  hG : allG m t = g0 + 1
theorem Alld.of {m : Mo} {t : Int} (h : allE m t = 0) : ∃ k g0, Alld m t k g0 := by
  have h' := h
  unfold allE at h
  split at h
  · rename_i hc
    obtain ⟨h8, h960, h16, hty, hobs, hsl⟩ := chk_ok hc
    split at h
    · rename_i ht
      split at h
      · omega
      · rename_i hnx
        split at h
        · omega
        · rename_i hl
          obtain ⟨k, hk⟩ := Option.ne_none_iff_exists'.1 hnx
          obtain ⟨_, ⟨s, hs, hu, hg1⟩, _⟩ := nextFrom_some hk
          rw [Nat.sub_zero] at hs
          have hkl : k < 16 := by have := (List.getElem?_eq_some_iff.1 hs).1; omega
          have hsk := hsl s (List.mem_of_getElem? hs)
          obtain ⟨g0, u, a⟩ := s
          dsimp only at hu hg1
          subst hu
          obtain rfl : a = 0 := hsk.2.1 rfl
          have hgd : m.slots.getD k .none = ⟨g0, false, 0⟩ := by rw [List.getD_eq_getElem?_getD, hs]; rfl
          have hg2 := hsk.1
          dsimp only at hg2
          refine ⟨k, g0, hc, ht, by omega, hkl, hs, by omega, ?_, ?_, ?_⟩
          · rw [allM, if_pos h', hk, Option.getD_some, givS, hgd]
          · rw [allS, if_pos h', hk, Option.getD_some]
          · rw [allG, if_pos h', hk, Option.getD_some, hgd]
    · omega
  · omega
section
variable {m : Mo} {t : Int} {k : Nat} {g0 : Int} (h : Alld m t k g0)
include h
/-- the new model -/
theorem Alld.slot : (m.slots.set k ⟨g0 + 1, true, m.objs.length⟩)[k]? = some ⟨g0 + 1, true, m.objs.length⟩ := by
  have h1 := (List.getElem?_eq_some_iff.1 h.hs).1
  rw [List.getElem?_set_self h1]
theorem Alld.ok : chk (allM m t) = 0 := by
  obtain ⟨h8, h960, h16, hty, hobs, hsl⟩ := chk_ok h.hc
  have hn := h.hn
  rw [h.hM]
  refine chk_zero (by simp; omega) ⟨by simpa using h16, hty, fun o ho => ?_, fun s hs => ?_⟩
  · rcases List.mem_append.1 ho with ho | ho
    · obtain ⟨a1, a2, a3⟩ := hobs o ho
      refine ⟨a1, a2, fun i hi => ?_⟩
      obtain ⟨b1, b2⟩ := a3 i hi
      exact ⟨b1, fun e => Nat.le_trans (b2 e) (by simp)⟩
    · rw [List.mem_singleton] at ho
      subst ho
      have ht := h.ht
      refine ⟨ht, by simp [newO, ty], fun i hi => ?_⟩
      simp only [newO, zeros_get]
      exact ⟨fun _ => by decide, fun _ => by simp⟩
  · rcases List.mem_or_eq_of_mem_set hs with hs | hs
    · obtain ⟨a1, a2, a3⟩ := hsl s hs
      exact ⟨a1, a2, fun e => by have := a3 e; simp; omega⟩
    · subst hs
      have := h.hg
      refine ⟨?_, ?_, ?_⟩
      · dsimp only; omega
      · intro e; cases e
      · intro _; simp; omega
theorem Alld.len : (allM m t).objs.length = m.objs.length + 1 := by rw [h.hM]; simp
theorem Alld.right : rightErr (allM m t).slots k (g0 + 1) = 0 := by
  have hk := h.hk
  have hs := h.slot
  have h16 := (chk_ok h.hc).2.2.1
  have hgd : (m.slots.set k ⟨g0 + 1, true, m.objs.length⟩).getD k .none = ⟨g0 + 1, true, m.objs.length⟩ := by rw [List.getD_eq_getElem?_getD, hs]; rfl
  rw [h.hM, rightErr, if_pos (by simp; omega), if_pos]
  rw [Int.toNat_natCast, hgd]
  exact ⟨rfl, rfl⟩
theorem Alld.own : own (allM m t) k = m.objs.length := by
  rw [L20.own, Int.toNat_natCast, h.hM, List.getD_eq_getElem?_getD, h.slot]; simp
theorem Alld.idle : ¬ Busy (allM m t) k m.objs.length := by
  obtain ⟨h8, h960, h16, hty, hobs, hsl⟩ := chk_ok h.hc
  rw [h.hM]
  rintro (⟨i, hi, hne, hu, ha⟩ | ⟨i, hi, hne, j, hj, hr⟩)
  · have hik : k ≠ i := fun e => hne (by rw [e])
    have hi' : i < m.slots.length := by simpa using hi
    have e : (m.slots.set k ⟨g0 + 1, true, m.objs.length⟩).getD i .none = m.slots[i] := by
      rw [List.getD_eq_getElem?_getD, List.getElem?_set_ne hik, List.getElem?_eq_getElem hi']; rfl
    dsimp only at hu ha
    rw [e] at hu ha
    have := (hsl _ (List.getElem_mem hi')).2.2 hu
    omega
  · have hi' : i < m.objs.length := by simp at hi; omega
    have e : ob ⟨m.types, m.objs ++ [newO m t], m.slots.set k ⟨g0 + 1, true, m.objs.length⟩⟩ i = m.objs[i] := by
      simp [ob, List.getD_eq_getElem?_getD, List.getElem?_append_left hi', List.getElem?_eq_getElem hi']
    rw [e] at hj hr
    have := ((hobs _ (List.getElem_mem hi')).2.2 j hj).2 hr.1
    have h2 := hr.2
    omega
theorem Alld.asked : asked (allM m t) k (g0 + 1) = 0 := by rw [L20.asked, if_pos h.ok, h.right]
theorem Alld.free : freeE (allM m t) k (g0 + 1) = 0 := by rw [freeE, if_pos h.asked, h.own, if_neg h.idle]
theorem Alld.freed : freeM (allM m t) k (g0 + 1) = ⟨m.types, m.objs, m.slots.set k ⟨g0 + 1, false, 0⟩⟩ := by
  obtain ⟨h8, h960, h16, hty, hobs, hsl⟩ := chk_ok h.hc
  have hn := h.hn
  rw [freeM, if_pos h.free, h.own, h.hM, Int.toNat_natCast]
  dsimp only
  congr 1
  · rw [List.map_append, List.eraseIdx_append_of_length_le (by simp)]
    simp only [List.length_map, Nat.sub_self, List.map_cons, List.map_nil, List.eraseIdx_cons_zero, List.append_nil]
    conv => rhs; rw [← List.map_id m.objs]
    refine List.map_congr_left fun o ho => ?_
    obtain ⟨a1, a2, a3⟩ := hobs o ho
    rw [lowO, id]
    obtain ⟨oty, ofs⟩ := o
    congr 1
    apply List.ext_getElem?
    intro i
    rcases Nat.lt_or_ge i ofs.length with hi | hi
    · have h3 := (a3 i hi).2
      rw [List.getElem?_map, List.getElem?_range hi, Option.map_some, List.getElem?_eq_getElem hi]
      congr 1
      have hg : ofs.getD i 0 = ofs[i] := by rw [List.getD_eq_getElem?_getD, List.getElem?_eq_getElem hi]; rfl
      rw [lowV, if_neg, hg]
      rintro ⟨c1, c2⟩
      have := h3 c1
      omega
    · rw [List.getElem?_eq_none (by simpa using hi), List.getElem?_eq_none hi]
  · rw [List.set_set]
    conv => rhs; rw [← List.map_id (m.slots.set k ⟨g0 + 1, false, 0⟩)]
    refine List.map_congr_left fun s hs => ?_
    rw [lowS, id]
    rcases List.mem_or_eq_of_mem_set hs with hs | hs
    · split
      · rename_i hu
        have := (hsl s hs).2.2 hu
        obtain ⟨sg, su, sa⟩ := s
        dsimp only at hu this ⊢
        subst hu
        rw [lowA, if_neg (by omega)]
      · rfl
    · subst hs; rfl
end
end Go.Proofs.Ytiiilaojllmmiaa.L20
namespace Go.Proofs.Ytiiilaojllmmiaa.L20
open L02 L13 L18
theorem ob_putF {m : Mo} {n i : Nat} {v : UInt64} (hn : n < m.objs.length) : ob (putF m n i v) n = ⟨(ob m n).ty, (ob m n).fs.set i v⟩ := by
  rw [ob, putF, List.getD_eq_getElem?_getD, List.getElem?_set_self hn]; rfl
theorem len_putF {m : Mo} {n i : Nat} {v : UInt64} : (putF m n i v).objs.length = m.objs.length := by simp [putF]
theorem chk_putF {m : Mo} {n i : Nat} {v : UInt64} (hc : chk m = 0) (hn : n < m.objs.length) (hv : i < (ob m n).fs.length → FdOk m.objs.length ((ty m.types (ob m n)).getD i 0) v) : chk (putF m n i v) = 0 := by
  obtain ⟨h8, h960, h16, hty, hobs, hsl⟩ := chk_ok hc
  refine chk_zero (by rw [len_putF]; simp only [putF]; omega) ⟨h16, hty, fun o ho => ?_, fun s hs => ?_⟩
  · rw [len_putF]
    show ObOk m.types m.objs.length o
    rcases List.mem_or_eq_of_mem_set ho with ho | ho
    · exact hobs o ho
    · have hob : ob m n ∈ m.objs := by rw [ob, List.getD_eq_getElem?_getD, List.getElem?_eq_getElem hn]; exact List.getElem_mem hn
      obtain ⟨a1, a2, a3⟩ := hobs _ hob
      subst ho
      refine ⟨a1, by rw [List.length_set]; exact a2, fun j hj => ?_⟩
      have hj' : j < (ob m n).fs.length := by simpa using hj
      show FdOk m.objs.length ((ty m.types (ob m n)).getD j 0) (((ob m n).fs.set i v).getD j 0)
      by_cases hij : i = j
      · subst hij
        rw [show ((ob m n).fs.set i v).getD i 0 = v by rw [List.getD_eq_getElem?_getD, List.getElem?_set_self hj']; rfl]
        exact hv hj'
      · rw [show ((ob m n).fs.set i v).getD j 0 = (ob m n).fs.getD j 0 by rw [List.getD_eq_getElem?_getD, List.getElem?_set_ne hij, ← List.getD_eq_getElem?_getD]]
        exact a3 j hj'
  · rw [len_putF]; exact hsl s hs
theorem asked_putF {m : Mo} {n i : Nat} {v : UInt64} {sl g : Int} (hc : chk m = 0) (hp : chk (putF m n i v) = 0) : asked (putF m n i v) sl g = asked m sl g := by
  rw [asked, asked, if_pos hc, if_pos hp]; rfl
theorem own_putF {m : Mo} {n i : Nat} {v : UInt64} {sl : Int} : own (putF m n i v) sl = own m sl := rfl
theorem kinds_putF {m : Mo} {n i : Nat} {v : UInt64} {sl : Int} (hn : n < m.objs.length) (ho : own m sl = n) : kinds (putF m n i v) sl = kinds m sl := by
  rw [kinds, kinds, own_putF, ho, ob_putF hn]; rfl
end Go.Proofs.Ytiiilaojllmmiaa.L20
namespace Go.Proofs.Ytiiilaojllmmiaa.L20
open L02 L13 L18
/-- a field of the object of a right handle of a valid model -/
structure Ed (m : Mo) (k n i : Nat) (sg : Int) (o : Ob) (t : List UInt8) (kd : UInt8) (x0 : UInt64) : Prop where
  hc : chk m = 0
  hr : rightErr m.slots k sg = 0
  hs : m.slots[k]? = some ⟨sg, true, n⟩
  hn : n < m.objs.length
  ho : m.objs[n]? = some o
  hob : ob m n = o
  hi : i < o.fs.length
  hx : o.fs[i]? = some x0
  hown : own m k = n
  hty : 0 ≤ o.ty ∧ o.ty < m.types.length
  ht : m.types[o.ty.toNat]? = some t
  hk : t[i]? = some kd
  htl : t.length = o.fs.length
  htt : ty m.types o = t
  hE : kErrF m k sg i = 0
  hkd : kind m k sg i = kd
  hfd : FdOk m.objs.length kd x0
theorem Ed.of {m : Mo} {k n i : Nat} {sg : Int} {s : Sl} {o : Ob} {t : List UInt8} (hc : chk m = 0) (hr : rightErr m.slots k sg = 0) (hs : m.slots[k]? = some s) (hu : s.used = true) (hg : s.gen = sg) (hat : s.at_ = n) (ho : m.objs[n]? = some o) (hob : ob m n = o) (hoo : ObOk m.types m.objs.length o)
    (hown : own m k = n) (ht : m.types[o.ty.toNat]? = some t) (htt : ty m.types o = t) (hkinds : kinds m k = t) (hfl : o.fs.length = t.length) (hi : i < o.fs.length) : ∃ kd x0, Ed m k n i sg o t kd x0 := by
  obtain ⟨g, u, a⟩ := s
  dsimp only at hu hg hat
  subst hu; subst hg; subst hat
  have ha : asked m k g = 0 := by rw [asked, if_pos hc, hr]
  have hk : t[i]? = some t[i] := List.getElem?_eq_getElem (by omega)
  have hx : o.fs[i]? = some o.fs[i] := List.getElem?_eq_getElem hi
  have hE : kErrF m k g i = 0 := by rw [kErrF, if_pos ha, if_pos (by rw [hkinds]; omega)]
  have hf := hoo.2.2 i hi
  rw [htt, List.getD_eq_getElem?_getD, hk, List.getD_eq_getElem?_getD, hx] at hf
  exact ⟨t[i], o.fs[i], hc, hr, hs, (List.getElem?_eq_some_iff.1 ho).1, ho, hob, hi, hx, hown, hoo.1, ht, hk, hfl.symm, htt, hE, by rw [kind, if_pos hE, hkinds, Int.toNat_natCast, List.getD_eq_getElem?_getD, hk]; rfl, hf⟩
theorem setV_ok {N : Nat} {kd : UInt8} {v : UInt64} (h : kd.toNat ≠ 3) : FdOk N kd (setV kd v) := by
  refine ⟨fun h2 => ?_, fun h3 => absurd h3 h⟩
  unfold setV
  split
  · exact .inl rfl
  · rename_i h4
    exact Decidable.not_not.1 fun h5 => h4 ⟨h2, h5⟩
section
variable {m : Mo} {k n i : Nat} {sg : Int} {o : Ob} {t : List UInt8} {kd : UInt8} {x0 : UInt64} (h : Ed m k n i sg o t kd x0)
include h
theorem Ed.chk {v : UInt64} (hv : FdOk m.objs.length kd v) : L20.chk (putF m n i v) = 0 := by
  refine chk_putF h.hc h.hn fun _ => ?_
  rw [h.hob, h.htt, List.getD_eq_getElem?_getD, h.hk]; exact hv
/-- the field of an edited model -/
theorem Ed.put {v : UInt64} (hv : FdOk m.objs.length kd v) : Ed (putF m n i v) k n i sg ⟨o.ty, o.fs.set i v⟩ t kd v := by
  have hp := h.chk hv
  have hob : ob (putF m n i v) n = ⟨o.ty, o.fs.set i v⟩ := by rw [ob_putF h.hn, h.hob]
  have hki : kinds (putF m n i v) k = kinds m k := kinds_putF h.hn h.hown
  have hE : kErrF (putF m n i v) k sg i = kErrF m k sg i := by unfold kErrF; rw [asked_putF h.hc hp, hki]
  refine ⟨hp, h.hr, h.hs, by rw [len_putF]; exact h.hn, ?_, hob, by simpa using h.hi, List.getElem?_set_self h.hi, h.hown, h.hty, h.ht, h.hk, by simpa using h.htl, h.htt, hE.trans h.hE, ?_, by rw [len_putF]; exact hv⟩
  · show (m.objs.set n _)[n]? = _
    rw [List.getElem?_set_self h.hn, h.hob]
  · unfold kind; rw [hE, hki]; exact h.hkd
theorem Ed.fld : fld m k i = x0 := by rw [L20.fld, h.hown, h.hob, Int.toNat_natCast, List.getD_eq_getElem?_getD, h.hx]; rfl
theorem Ed.get (h3 : kd.toNat ≠ 3) : getE m k sg i = 0 ∧ getV m k sg i = x0 := by
  have e : getE m k sg i = 0 := by rw [getE, if_pos h.hE, h.hkd, if_neg h3]
  exact ⟨e, by rw [getV, if_pos e, h.fld]⟩
theorem Ed.get3 (h3 : kd.toNat = 3) : getE m k sg i = 42 ∧ getV m k sg i = 0 := by
  have e : getE m k sg i = 42 := by rw [getE, if_pos h.hE, h.hkd, if_pos h3]
  exact ⟨e, by rw [getV, e]; rfl⟩
theorem Ed.put_eq {v : UInt64} : L20.put m k i v = putF m n i v := by rw [L20.put, h.hown, Int.toNat_natCast]
theorem Ed.set {v : UInt64} (h3 : kd.toNat ≠ 3) : setM m k sg i v = putF m n i (setV kd v) := by rw [setM, if_pos (h.get h3).1, h.hkd, h.put_eq]
theorem Ed.set3 {v : UInt64} (h3 : kd.toNat = 3) : setM m k sg i v = .nil := by rw [setM, (h.get3 h3).1]; rfl
theorem Ed.ref (tq : Int × Int) (h3 : kd.toNat = 3) : refE m k sg i (some tq) = rightErr m.slots tq.1 tq.2 := by unfold refE; rw [if_pos h.hE, h.hkd, if_pos h3]
end
end Go.Proofs.Ytiiilaojllmmiaa.L20
namespace Go.Proofs.Ytiiilaojllmmiaa.L19
open L02 L07 L13 L14 L15 L16 L18 L20
/-- an image with a change made -/
def put1 (l : List UInt64) (e : Int × UInt64) : List UInt64 := if 0 ≤ e.1 ∧ e.1 < l.length then l.set e.1.toNat e.2 else l
def made (l : List UInt64) (E : List (Int × UInt64)) : List UInt64 := (E.take 100).foldl put1 l
theorem put1_len (l : List UInt64) (e : Int × UInt64) : (put1 l e).length = l.length := by
  unfold put1; split
  · rw [List.length_set]
  · rfl
theorem made_len (l : List UInt64) (E : List (Int × UInt64)) : (made l E).length = l.length := by
  unfold made
  generalize E.take 100 = F
  induction F generalizing l with
  | nil => rfl
  | cons e F ih => rw [List.foldl_cons, ih, put1_len]
theorem put1_set {l : List UInt64} {p : Nat} {y : UInt64} (h : p < l.length) : put1 l ((p : Int), y) = l.set p y := by
  unfold put1
  rw [if_pos ⟨by show (0 : Int) ≤ (p : Int); omega, by show (p : Int) < _; omega⟩, Int.toNat_natCast]
theorem made_one {l : List UInt64} {p : Nat} {y : UInt64} (h : p < l.length) : made l [((p : Int), y)] = l.set p y := put1_set h
theorem set_back {l : List UInt64} {p : Nat} {x y : UInt64} (h : l[p]? = some x) : (l.set p y).set p x = l := by
  rw [List.set_set]
  apply List.ext_getElem?
  intro i
  by_cases hi : i = p
  · subst hi
    rw [List.getElem?_set_self (List.getElem?_eq_some_iff.1 h).1, h]
  · rw [List.getElem?_set_ne (fun e => hi e.symm)]
section
variable {l : List UInt64} {k a nn q i : Nat} {sg : Int} {b : Hb} {t : List UInt8} {kd : UInt8} {x : UInt64}
theorem Hd.mk2 (rt : Rt l) (hk : k < 16) (hs : (slots l)[k]? = some ⟨sg, true, a⟩) (ho : (O19 l)[nn]? = some b) (hat : b.at_ = a) : ∃ q t, Hd l k a nn q sg b t := by
  have hr : resErr l k sg = 0 := by
    rw [(resErr_at rt.sl hs sg).1]; simp
  have ha : askI l k sg = 0 := by rw [askI, if_pos rt.chk, hr]
  obtain ⟨k', a', nn', q, b', t, e, h⟩ := Hd.of ha
  have : k' = k := by omega
  subst this
  have h1 := h.hs
  rw [hs] at h1
  injection h1 with h1
  injection h1 with _ _ h1
  have : a' = a := by omega
  subst this
  have hb : b' = b := objs_inj rt.al (List.mem_of_getElem? h.ho) (List.mem_of_getElem? ho) (by rw [h.hat, hat])
  subst hb
  have hn := objs_idx rt.al h.ho ho
  subst hn
  exact ⟨q, t, h⟩
theorem Fd.mk2 (h : Hd l k a nn q sg b t) (hi : i < t.length) : ∃ kd x, Fd l k a nn q i sg b t kd x := by
  have hE : kiErr l k sg i = 0 := by rw [kiErr, if_pos h.hask, h.kinds, if_pos ⟨by omega, by omega⟩]
  obtain ⟨k', a', nn', q', i', b', t', kd, x, e1, e2, f⟩ := Fd.of hE
  have : k' = k := by omega
  subst this
  have : i' = i := by omega
  subst this
  have h1 := f.hd.hs
  rw [h.hs] at h1
  injection h1 with h1
  injection h1 with _ _ h1
  have : a' = a := by omega
  subst this
  have hb : b' = b := objs_inj h.rt.al (List.mem_of_getElem? f.hd.ho) (List.mem_of_getElem? h.ho) (by rw [f.hd.hat, h.hat])
  subst hb
  have hn := objs_idx h.rt.al f.hd.ho h.ho
  subst hn
  have hq : q' = q := by have := f.hd.hty; have := h.hty; omega
  subst hq
  have ht : t' = t := by have h1 := f.hd.hT; have h2 := h.hT; rw [h1] at h2; injection h2
  subst ht
  exact ⟨kd, x, f⟩
theorem Fd.lt (f : Fd l k a nn q i sg b t kd x) : a + 2 + i < l.length := (List.getElem?_eq_some_iff.1 f.hx).1
theorem Fd.fdr (f : Fd l k a nn q i sg b t kd x) : FdR (O19 l) kd x := by
  refine ⟨fun h2 => ?_, f.ref⟩
  have hb := List.mem_of_getElem? f.hd.ho
  have := f.hd.rt.good 10 (by omega) (by omega) b hb i (by rw [f.hd.hkB]; exact f.hi) (by rw [f.hd.hkB, List.getD_eq_getElem?_getD, f.hkd]; exact h2)
  have hf : fw l b i = x := by unfold fw; rw [f.hd.hat, Int.toNat_natCast, List.getD_eq_getElem?_getD, f.hx]; rfl
  rw [hf] at this; exact this
/-- another field -/
theorem Fd.put (f : Fd l k a nn q i sg b t kd x) {y : UInt64} (hy : FdR (O19 l) kd y) :
    Fd (l.set (a + 2 + i) y) k a nn q i sg b t kd y ∧ seen (l.set (a + 2 + i) y) = putF (seen l) nn i (fldV (O19 l) kd y) ∧ O19 (l.set (a + 2 + i) y) = O19 l ∧ slots (l.set (a + 2 + i) y) = slots l ∧ T19 (l.set (a + 2 + i) y) = T19 l := by
  have rt := f.hd.rt
  have hbm := List.mem_of_getElem? f.hd.ho
  have hik : i < (kindsB (T19 l) b).length := by rw [f.hd.hkB]; exact f.hi
  have hkk : (kindsB (T19 l) b).getD i 0 = kd := by rw [f.hd.hkB, List.getD_eq_getElem?_getD, f.hkd]; rfl
  have hp : a + 2 + i = b.at_.toNat + 2 + i := by rw [f.hd.hat, Int.toNat_natCast]
  obtain ⟨rt', hsn⟩ := seen_put rt f.hd.ho hik hkk hp hy
  have fs := rt.fs hbm y hik hp
  have eO : O19 (l.set (a + 2 + i) y) = O19 l := by unfold O19; rw [fs.alL]
  obtain ⟨q', t', h'⟩ := Hd.mk2 (k := k) (sg := sg) (a := a) rt' f.hd.hk (by rw [fs.slL]; exact f.hd.hs) (by rw [eO]; exact f.hd.ho) f.hd.hat
  have hq : q' = q := by have := h'.hty; have := f.hd.hty; omega
  subst hq
  have ht : t' = t := by have h1 := h'.hT; have h2 := f.hd.hT; rw [fs.tyT, h2] at h1; injection h1 with h1; exact h1.symm
  subst ht
  obtain ⟨kd', x', f'⟩ := Fd.mk2 h' f.hi
  have hkd : kd' = kd := by have h1 := f'.hkd; rw [f.hkd] at h1; injection h1 with h1; exact h1.symm
  have hx : x' = y := by have h1 := f'.hx; rw [List.getElem?_set_self f.lt] at h1; injection h1 with h1; exact h1.symm
  subst hkd; subst hx
  exact ⟨f', hsn, eO, fs.slL, fs.tyT⟩
theorem Fd.gE (f : Fd l k a nn q i sg b t kd x) : giE l k sg i = if kd.toNat = 3 then 42 else 0 := by rw [giE, if_pos f.hE, f.hK]
theorem Fd.sL (f : Fd l k a nn q i sg b t kd x) (h3 : kd.toNat ≠ 3) (v : UInt64) : siL l k sg i v = [(((a + 2 + i : Nat) : Int), setV kd v)] := by rw [siL, f.gE, if_neg h3, if_pos rfl, f.hAt, f.hK]
theorem setV_fdr {O : List Hb} (h3 : kd.toNat ≠ 3) (v : UInt64) : FdR O kd (setV kd v) := ⟨(setV_ok (N := 0) h3).1, fun h => absurd h h3⟩
theorem setV_same {O : List Hb} (h : FdR O kd x) : setV kd x = x := by
  unfold setV
  rw [if_neg (fun e => e.2 (h.1 e.1))]
/-- what is written last counts -/
theorem Fd.last (f : Fd l k a nn q i sg b t kd x) (h3 : kd.toNat ≠ 3) (v : UInt64) :
    Fd (made l (siL l k sg i v)) k a nn q i sg b t kd (setV kd v) ∧ (∀ u, made (made l (siL l k sg i v)) (siL (made l (siL l k sg i v)) k sg i u) = made l (siL l k sg i u)) ∧ made (made l (siL l k sg i v)) (siL (made l (siL l k sg i v)) k sg i x) = l ∧ made l (siL l k sg i x) = l := by
  have e1 : made l (siL l k sg i v) = l.set (a + 2 + i) (setV kd v) := by rw [f.sL h3, made_one f.lt]
  obtain ⟨f', _⟩ := f.put (setV_fdr h3 v)
  rw [e1]
  refine ⟨f', fun u => ?_, ?_, ?_⟩
  · rw [f'.sL h3, made_one f'.lt, f.sL h3, made_one f.lt, List.set_set]
  · rw [f'.sL h3, made_one f'.lt, setV_same f.fdr, set_back f.hx]
  · rw [f.sL h3, made_one f.lt, setV_same f.fdr]
    have := set_back (y := x) f.hx
    rw [List.set_set] at this; exact this
end
theorem slOf_ug (O : List Hb) (s : Sl) : (slOf O s).used = s.used ∧ (slOf O s).gen = s.gen := by
  unfold slOf
  by_cases hu : s.used = true
  · rw [if_pos hu, hu]; exact ⟨rfl, rfl⟩
  · rw [if_neg hu]; exact ⟨rfl, rfl⟩
/-- what the model asks is what the image asks -/
theorem right_map {S : List Sl} {O : List Hb} (sl g : Int) : rightErr (S.map (slOf O)) sl g = rightErr S sl g := by
  unfold rightErr
  rw [List.length_map]
  by_cases h : 0 ≤ sl ∧ sl < S.length
  · rw [if_pos h, if_pos h]
    have hk : sl.toNat < S.length := by omega
    rw [List.getD_eq_getElem?_getD, List.getElem?_map, List.getD_eq_getElem?_getD, List.getElem?_eq_getElem hk]
    simp only [Option.map_some, Option.getD_some]
    simp only [(slOf_ug O _).1, (slOf_ug O _).2]
  · rw [if_neg h, if_neg h]
section
variable {l : List UInt64}
theorem asked_seen (h : Rt l) (sl g : Int) : asked (seen l) sl g = askI l sl g := by
  rw [asked, if_pos (seen_chk h), askI, if_pos h.chk, resErr, if_pos h.sl]
  exact right_map sl g
end
section
variable {l : List UInt64} {k a nn q i : Nat} {sg : Int} {b : Hb} {t : List UInt8} {kd : UInt8} {x : UInt64}
theorem Fd.fld (f : Fd l k a nn q i sg b t kd x) : fld (seen l) k i = fldV (O19 l) kd x := by
  unfold L20.fld
  rw [f.hd.own, f.hd.ob, Int.toNat_natCast]
  show (obFs l (T19 l) (O19 l) b).getD i 0 = _
  have hik : i < (kindsB (T19 l) b).length := by rw [f.hd.hkB]; exact f.hi
  have hkk : (kindsB (T19 l) b).getD i 0 = kd := by rw [f.hd.hkB, List.getD_eq_getElem?_getD, f.hkd]; rfl
  have hf : fw l b i = x := by unfold fw; rw [f.hd.hat, Int.toNat_natCast, List.getD_eq_getElem?_getD, f.hx]; rfl
  rw [List.getD_eq_getElem?_getD, obFs_get hik, hkk, hf]; rfl
end
end Go.Proofs.Ytiiilaojllmmiaa.L19
