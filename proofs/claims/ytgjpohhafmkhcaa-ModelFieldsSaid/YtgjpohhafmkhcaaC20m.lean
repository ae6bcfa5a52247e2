/- Contracts of models: the error of a handle; opening. -/
import Derived.Test.YtgjpohhafmkhcaaC20l
import Derived.Test.YtgjpohhafmkhcaaGhostM
set_option linter.unusedVariables false
set_option linter.unusedSimpArgs false
namespace Go.Proofs.Ytgjpohhafmkhcaa
open Go.RowKit L02 L13 L18 L20

theorem right_case {L : List Sl} {k : Nat} {s : Sl} {g r : Int} (hs : L[k]? = some s) (hr : r = rightErr L k g) : (s.used = false ∧ r = 28) ∨ (s.used = true ∧ (s.gen != g) = true ∧ r = 28) ∨ (s.used = true ∧ (s.gen != g) = false ∧ r = 0) := by
  have hk : k < L.length := (List.getElem?_eq_some_iff.1 hs).1
  have hgd : L.getD (k : Int).toNat .none = s := by simp [List.getD_eq_getElem?_getD, hs]
  have hrr : r = if s.used = true ∧ s.gen = g then 0 else 28 := by rw [hr, rightErr, if_pos (by omega), hgd]
  obtain ⟨gn, us, a⟩ := s
  dsimp only at *
  cases us
  · exact .inl ⟨rfl, by rw [hrr, if_neg (by simp)]⟩
  · by_cases hg : gn = g
    · exact .inr (.inr ⟨rfl, by rw [bne_eq_false_iff_eq]; exact hg, by rw [hrr, if_pos ⟨rfl, hg⟩]⟩)
    · exact .inr (.inl ⟨rfl, by rw [bne_iff_ne]; exact hg, by rw [hrr, if_neg (fun h => hg h.2)]⟩)

set_option maxRecDepth 100000 in
set_option maxHeartbeats 4000000 in
theorem find20_any (tv ov sv : Value) (m : Mo) (sl g : Int) (r : Int) (hr : r = rightErr m.slots sl g) (w : World) (h : Mod w tv ov sv m) :
    Calls Try.prog 43 #[.agg #[tv, ov, sv], .agg #[.int .i64 sl, .int .i64 g]] w fun e w' => e = .returned (.int .i64 r) ∧ Below w.heap.size w w' := by
  have B : Below w.heap.size w w := Below.refl _ _
  have ls := h.s.len
  obtain ⟨NS, hNS⟩ : ∃ N, N = m.slots.length := ⟨_, rfl⟩
  rw [← hNS] at ls
  by_cases hin : 0 ≤ sl ∧ sl < NS
  · obtain ⟨h0, h1⟩ := hin
    obtain ⟨k, rfl⟩ := Int.eq_ofNat_of_zero_le h0
    obtain ⟨b, o, s, ia, m0, m1, m2, hs⟩ := h.s.at_ (P := Try.prog) Try.underlying24 size_slot (k := k) (by omega)
    have hcase := right_case hs.out hr
    have n1 : ¬ (k : Int) < 0 := by omega
    have n2 : ¬ (NS : Int) ≤ (k : Int) := by omega
    have n3 : ¬ NS ≤ k := by omega
    obtain ⟨gn, us, a⟩ := s
    dsimp only at m0 m1 m2 hcase
    clear hr h hs hNS h0 h1
    rcases hcase with ⟨rfl, rfl⟩ | ⟨rfl, hne, rfl⟩ | ⟨rfl, hne, rfl⟩
    all_goals
      go_enter Try.func43, Try.ntmps43
      go_upto_region 1 with (fail)
      refine wp_gen (fun Wv => Bx Wv (w.heap.size) (26) (#[tv, ov, sv]) ∧ Bx Wv (w.heap.size + 1) (28) (#[.int .i64 k, .int .i64 g]) ∧ Below w.heap.size w Wv) ⟨(((Bx.at_ (by simp)).alloc _)), ((Bx.at_ (by simp))), (((Below.refl _ w).alloc (by simp <;> omega) _).alloc (by simp <;> omega) _)⟩ ?_
      rintro wa1 ⟨g1, g2, b⟩
      replace m0 := cell_later b m0; replace m1 := cell_later b m1; replace m2 := cell_later b m2; replace B := B.trans (b.mono B.size); clear b
      have c_g1 := g1.cell; have f_g1 := g1.free; have a_g1 := fun o => (g1.alloc o).cell; have d_g1 := fun o o2 => ((g1.alloc o).alloc o2).cell; have e_g1 := fun o => (g1.alloc o).free
      have c_g2 := g2.cell; have f_g2 := g2.free; have a_g2 := fun o => (g2.alloc o).cell; have d_g2 := fun o o2 => ((g2.alloc o).alloc o2).cell; have e_g2 := fun o => (g2.alloc o).free
      go_wp2
      go_ret
      refine ⟨rfl, ?_⟩
      (repeat (first | refine Below.setCell ?_ (by first | exact Nat.le_refl _ | (simp <;> omega)) _ | refine Below.alloc ?_ (by first | exact B.size | (have := B.size; simp <;> omega)) _)); exact B
  · have hr0 : r = 2 := by rw [hr, rightErr, if_neg (by omega)]
    clear hr h hNS
    subst hr0
    have hcase : sl < 0 ∨ ¬ sl < 0 ∧ (NS : Int) ≤ sl := by omega
    clear hin
    rcases hcase with h1 | ⟨h1, h2⟩
    all_goals
      go_enter Try.func43, Try.ntmps43
      go_upto_region 1 with (fail)
      refine wp_gen (fun Wv => Bx Wv (w.heap.size) (26) (#[tv, ov, sv]) ∧ Bx Wv (w.heap.size + 1) (28) (#[.int .i64 sl, .int .i64 g]) ∧ Below w.heap.size w Wv) ⟨(((Bx.at_ (by simp)).alloc _)), ((Bx.at_ (by simp))), (((Below.refl _ w).alloc (by simp <;> omega) _).alloc (by simp <;> omega) _)⟩ ?_
      rintro wa1 ⟨g1, g2, b⟩
      replace B := B.trans (b.mono B.size); clear b
      have c_g1 := g1.cell; have f_g1 := g1.free; have a_g1 := fun o => (g1.alloc o).cell; have d_g1 := fun o o2 => ((g1.alloc o).alloc o2).cell; have e_g1 := fun o => (g1.alloc o).free
      have c_g2 := g2.cell; have f_g2 := g2.free; have a_g2 := fun o => (g2.alloc o).cell; have d_g2 := fun o o2 => ((g2.alloc o).alloc o2).cell; have e_g2 := fun o => (g2.alloc o).free
      go_wp2
      go_ret
      exact ⟨rfl, B⟩

theorem enter_copied (x : Value) (W : World) : (callFunc 49 (#[] ++ #[x] ++ #[])).run Try.prog W = .ok (.enter 49 #[x]) W := by
  simp [go_sem]
structure GMod where
  t : Value
  o : Value
  s : Value
  W1 : World
def GMod.val (g : GMod) : Value := .agg #[g.t, g.o, g.s]
def wsC (w : World) (p : Nat) (g : GMod) : Nat → World
  | 0 => w.drew
  | 1 => g.W1
  | _ => ((g.W1.setCell ⟨p, 0, none⟩ g.t).setCell ⟨p, 1, none⟩ g.o).setCell ⟨p, 2, none⟩ g.s

set_option maxRecDepth 100000 in
set_option maxHeartbeats 4000000 in
theorem open20_no (tv ov sv : Value) (m : Mo) (sl g : Int) (r : Int) (hr : r = asked m sl g) (h0 : r ≠ 0) (w : World) (h : Mod w tv ov sv m) :
    Calls Try.prog 55 #[.agg #[tv, ov, sv], .agg #[.int .i64 sl, .int .i64 g]] w fun e w' => e = .returned (.tuple #[.agg #[.slice none 0 0, .slice none 0 0, .slice none 0 0], .int .i64 0, .int .i64 r]) ∧ Below w.heap.size w w' := by
  have B : Below w.heap.size w w := Below.refl _ _
  obtain ⟨c, hc⟩ : ∃ c, c = chk m := ⟨_, rfl⟩
  have CT := Lib.hid (fun w h => Check20_any tv ov sv m c hc w h)
  have H := Lib.hid h
  by_cases hc0 : c = 0
  · have hr1 : r = rightErr m.slots sl g := by rw [hr, asked_eq (by rw [← hc]; exact hc0)]
    have FT := Lib.hid (fun w h => find20_any tv ov sv m sl g r hr1 w h)
    have hne : (r != 0) = true := by rw [bne_iff_ne]; exact h0
    subst hc0
    clear hr hr1 h hc h0
    go_enter Try.func55, Try.ntmps55
    go_upto_region 1 with (fail)
    refine wp_gen (fun Wv => Bx Wv (w.heap.size) (26) (#[tv, ov, sv]) ∧ Bx Wv (w.heap.size + 1) (28) (#[.int .i64 sl, .int .i64 g]) ∧ Bx Wv (w.heap.size + 1 + 1) (26) (#[.slice none 0 0, .slice none 0 0, .slice none 0 0]) ∧ Below w.heap.size w Wv) ⟨((((Bx.at_ (by simp)).alloc _).alloc _)), (((Bx.at_ (by simp)).alloc _)), ((Bx.at_ (by simp))), ((((Below.refl _ w).alloc (by simp <;> omega) _).alloc (by simp <;> omega) _).alloc (by simp <;> omega) _)⟩ ?_
    rintro wa1 ⟨g1, g2, g3, b⟩
    replace B := B.trans (b.mono B.size); clear b
    have c_g1 := g1.cell; have f_g1 := g1.free; have a_g1 := fun o => (g1.alloc o).cell; have d_g1 := fun o o2 => ((g1.alloc o).alloc o2).cell; have e_g1 := fun o => (g1.alloc o).free
    have c_g2 := g2.cell; have f_g2 := g2.free; have a_g2 := fun o => (g2.alloc o).cell; have d_g2 := fun o o2 => ((g2.alloc o).alloc o2).cell; have e_g2 := fun o => (g2.alloc o).free
    have c_g3 := g3.cell; have f_g3 := g3.free; have a_g3 := fun o => (g3.alloc o).cell; have d_g3 := fun o o2 => ((g3.alloc o).alloc o2).cell; have e_g3 := fun o => (g3.alloc o).free
    go_wp2_with fail
    refine (CT.out _ (H.out.below B)).mono ?_
    rintro e wa2 ⟨rfl, b⟩
    try clear c_g1 f_g1 a_g1 d_g1 e_g1
    replace g1 := g1.below b; have c_g1 := g1.cell; have f_g1 := g1.free; have a_g1 := fun o => (g1.alloc o).cell; have d_g1 := fun o o2 => ((g1.alloc o).alloc o2).cell; have e_g1 := fun o => (g1.alloc o).free; try clear c_g2 f_g2 a_g2 d_g2 e_g2
    replace g2 := g2.below b; have c_g2 := g2.cell; have f_g2 := g2.free; have a_g2 := fun o => (g2.alloc o).cell; have d_g2 := fun o o2 => ((g2.alloc o).alloc o2).cell; have e_g2 := fun o => (g2.alloc o).free; try clear c_g3 f_g3 a_g3 d_g3 e_g3
    replace g3 := g3.below b; have c_g3 := g3.cell; have f_g3 := g3.free; have a_g3 := fun o => (g3.alloc o).cell; have d_g3 := fun o o2 => ((g3.alloc o).alloc o2).cell; have e_g3 := fun o => (g3.alloc o).free; replace B := B.trans (b.mono B.size); clear b
    go_wp2_with fail
    refine (FT.out _ (H.out.below B)).mono ?_
    rintro e wa3 ⟨rfl, b⟩
    try clear c_g1 f_g1 a_g1 d_g1 e_g1
    replace g1 := g1.below b; have c_g1 := g1.cell; have f_g1 := g1.free; have a_g1 := fun o => (g1.alloc o).cell; have d_g1 := fun o o2 => ((g1.alloc o).alloc o2).cell; have e_g1 := fun o => (g1.alloc o).free; try clear c_g2 f_g2 a_g2 d_g2 e_g2
    replace g2 := g2.below b; have c_g2 := g2.cell; have f_g2 := g2.free; have a_g2 := fun o => (g2.alloc o).cell; have d_g2 := fun o o2 => ((g2.alloc o).alloc o2).cell; have e_g2 := fun o => (g2.alloc o).free; try clear c_g3 f_g3 a_g3 d_g3 e_g3
    replace g3 := g3.below b; have c_g3 := g3.cell; have f_g3 := g3.free; have a_g3 := fun o => (g3.alloc o).cell; have d_g3 := fun o o2 => ((g3.alloc o).alloc o2).cell; have e_g3 := fun o => (g3.alloc o).free; replace B := B.trans (b.mono B.size); clear b
    go_wp2
    refine bodyPost_ret (v := .tuple #[.agg #[.slice none 0 0, .slice none 0 0, .slice none 0 0], .int .i64 0, .int .i64 r]) (by simp [results, Try.results55, go_sem, c_g1, f_g1, a_g1, e_g1, c_g2, f_g2, a_g2, e_g2, c_g3, f_g3, a_g3, e_g3]) rfl ?_
    refine ⟨rfl, ?_⟩
    (repeat (first | refine Below.setCell ?_ (by first | exact Nat.le_refl _ | (simp <;> omega)) _ | refine Below.alloc ?_ (by first | exact B.size | (have := B.size; simp <;> omega)) _)); exact B
  · have hr1 : r = c := by rw [hr, asked_no (by rw [← hc]; exact hc0), hc]
    have hne : (c != 0) = true := by rw [bne_iff_ne]; exact hc0
    subst hr1
    clear hr h hc h0 hc0
    go_enter Try.func55, Try.ntmps55
    go_upto_region 1 with (fail)
    refine wp_gen (fun Wv => Bx Wv (w.heap.size) (26) (#[tv, ov, sv]) ∧ Bx Wv (w.heap.size + 1) (28) (#[.int .i64 sl, .int .i64 g]) ∧ Bx Wv (w.heap.size + 1 + 1) (26) (#[.slice none 0 0, .slice none 0 0, .slice none 0 0]) ∧ Below w.heap.size w Wv) ⟨((((Bx.at_ (by simp)).alloc _).alloc _)), (((Bx.at_ (by simp)).alloc _)), ((Bx.at_ (by simp))), ((((Below.refl _ w).alloc (by simp <;> omega) _).alloc (by simp <;> omega) _).alloc (by simp <;> omega) _)⟩ ?_
    rintro wa1 ⟨g1, g2, g3, b⟩
    replace B := B.trans (b.mono B.size); clear b
    have c_g1 := g1.cell; have f_g1 := g1.free; have a_g1 := fun o => (g1.alloc o).cell; have d_g1 := fun o o2 => ((g1.alloc o).alloc o2).cell; have e_g1 := fun o => (g1.alloc o).free
    have c_g2 := g2.cell; have f_g2 := g2.free; have a_g2 := fun o => (g2.alloc o).cell; have d_g2 := fun o o2 => ((g2.alloc o).alloc o2).cell; have e_g2 := fun o => (g2.alloc o).free
    have c_g3 := g3.cell; have f_g3 := g3.free; have a_g3 := fun o => (g3.alloc o).cell; have d_g3 := fun o o2 => ((g3.alloc o).alloc o2).cell; have e_g3 := fun o => (g3.alloc o).free
    go_wp2_with fail
    refine (CT.out _ (H.out.below B)).mono ?_
    rintro e wa2 ⟨rfl, b⟩
    try clear c_g1 f_g1 a_g1 d_g1 e_g1
    replace g1 := g1.below b; have c_g1 := g1.cell; have f_g1 := g1.free; have a_g1 := fun o => (g1.alloc o).cell; have d_g1 := fun o o2 => ((g1.alloc o).alloc o2).cell; have e_g1 := fun o => (g1.alloc o).free; try clear c_g2 f_g2 a_g2 d_g2 e_g2
    replace g2 := g2.below b; have c_g2 := g2.cell; have f_g2 := g2.free; have a_g2 := fun o => (g2.alloc o).cell; have d_g2 := fun o o2 => ((g2.alloc o).alloc o2).cell; have e_g2 := fun o => (g2.alloc o).free; try clear c_g3 f_g3 a_g3 d_g3 e_g3
    replace g3 := g3.below b; have c_g3 := g3.cell; have f_g3 := g3.free; have a_g3 := fun o => (g3.alloc o).cell; have d_g3 := fun o o2 => ((g3.alloc o).alloc o2).cell; have e_g3 := fun o => (g3.alloc o).free; replace B := B.trans (b.mono B.size); clear b
    go_wp2
    refine bodyPost_ret (v := .tuple #[.agg #[.slice none 0 0, .slice none 0 0, .slice none 0 0], .int .i64 0, .int .i64 r]) (by simp [results, Try.results55, go_sem, c_g1, f_g1, a_g1, e_g1, c_g2, f_g2, a_g2, e_g2, c_g3, f_g3, a_g3, e_g3]) rfl ?_
    refine ⟨rfl, ?_⟩
    (repeat (first | refine Below.setCell ?_ (by first | exact Nat.le_refl _ | (simp <;> omega)) _ | refine Below.alloc ?_ (by first | exact B.size | (have := B.size; simp <;> omega)) _)); exact B

theorem OwnM.forms {w : World} {B E : Nat} {tv ov sv : Value} {m : Mo} (h : OwnM w B E tv ov sv m) : (∃ A n c, tv = .slice A n c) ∧ (∃ A n c, ov = .slice A n c) ∧ ∃ A n c, sv = .slice A n c := by
  obtain ⟨⟨_, _, z2, _⟩, ⟨_, _, y2, _⟩, s⟩ := h
  obtain ⟨A, c, e⟩ := own_form' z2; obtain ⟨A', c', e'⟩ := own_form' y2; obtain ⟨A'', c'', e''⟩ := own_form' s
  exact ⟨⟨A, _, c, e⟩, ⟨A', _, c', e'⟩, ⟨A'', _, c'', e''⟩⟩

set_option maxRecDepth 100000 in
set_option maxHeartbeats 4000000 in
theorem open20_ok (tv ov sv : Value) (m : Mo) (sl g : Int) (n : Nat) (h0 : asked m sl g = 0) (hn : own m sl = n) (w : World) (h : Mod w tv ov sv m) :
    Calls Try.prog 55 #[.agg #[tv, ov, sv], .agg #[.int .i64 sl, .int .i64 g]] w fun e w' => ∃ tv' ov' sv', e = .returned (.tuple #[.agg #[tv', ov', sv'], .int .i64 n, .int .i64 0]) ∧ OwnM w' w.heap.size 67 tv' ov' sv' m ∧ Below w.heap.size w w' := by
  have B : Below w.heap.size w w := Below.refl _ _
  obtain ⟨c0, hr0, k, s, n', o, t, hk, hk16, hs, hu, hg, hso, hat, hown, _⟩ := asked_ok h0
  obtain rfl : n' = n := by rw [← hown, hn]
  subst hk
  have CT := Lib.hid (fun w h => Check20_any tv ov sv m 0 c0.symm w h)
  have FT := Lib.hid (fun w h => find20_any tv ov sv m k g 0 hr0.symm w h)
  have CP := Lib.hid (fun w h => copied_any tv ov sv m (small_chk c0) w h)
  have hkl : k < m.slots.length := (List.getElem?_eq_some_iff.1 hs).1
  obtain ⟨b, q, s', ia, m0, m1, m2, hs'⟩ := h.s.at_ (P := Try.prog) Try.underlying24 size_slot hkl
  obtain rfl : s' = s := by have := hs'.out; rw [hs] at this; injection this with this; exact this.symm
  rw [hat] at m2
  have H := Lib.hid h
  clear h0 hr0 hs hs' hu hg hso hat hown hn c0 h m0 m1 hkl
  go_enter Try.func55, Try.ntmps55
  go_upto_region 1 with (fail)
  refine wp_gen (fun Wv => Bx Wv (w.heap.size) (26) (#[tv, ov, sv]) ∧ Bx Wv (w.heap.size + 1) (28) (#[.int .i64 k, .int .i64 g]) ∧ Bx Wv (w.heap.size + 1 + 1) (26) (#[.slice none 0 0, .slice none 0 0, .slice none 0 0]) ∧ Below w.heap.size w Wv) ⟨((((Bx.at_ (by simp)).alloc _).alloc _)), (((Bx.at_ (by simp)).alloc _)), ((Bx.at_ (by simp))), ((((Below.refl _ w).alloc (by simp <;> omega) _).alloc (by simp <;> omega) _).alloc (by simp <;> omega) _)⟩ ?_
  rintro wa1 ⟨g1, g2, g3, b⟩
  replace B := B.trans (b.mono B.size); clear b
  have c_g1 := g1.cell; have f_g1 := g1.free; have a_g1 := fun o => (g1.alloc o).cell; have d_g1 := fun o o2 => ((g1.alloc o).alloc o2).cell; have e_g1 := fun o => (g1.alloc o).free
  have c_g2 := g2.cell; have f_g2 := g2.free; have a_g2 := fun o => (g2.alloc o).cell; have d_g2 := fun o o2 => ((g2.alloc o).alloc o2).cell; have e_g2 := fun o => (g2.alloc o).free
  have c_g3 := g3.cell; have f_g3 := g3.free; have a_g3 := fun o => (g3.alloc o).cell; have d_g3 := fun o o2 => ((g3.alloc o).alloc o2).cell; have e_g3 := fun o => (g3.alloc o).free
  go_wp2_with fail
  refine (CT.out _ (H.out.below B)).mono ?_
  rintro e wa2 ⟨rfl, b⟩
  try clear c_g1 f_g1 a_g1 d_g1 e_g1
  replace g1 := g1.below b; have c_g1 := g1.cell; have f_g1 := g1.free; have a_g1 := fun o => (g1.alloc o).cell; have d_g1 := fun o o2 => ((g1.alloc o).alloc o2).cell; have e_g1 := fun o => (g1.alloc o).free; try clear c_g2 f_g2 a_g2 d_g2 e_g2
  replace g2 := g2.below b; have c_g2 := g2.cell; have f_g2 := g2.free; have a_g2 := fun o => (g2.alloc o).cell; have d_g2 := fun o o2 => ((g2.alloc o).alloc o2).cell; have e_g2 := fun o => (g2.alloc o).free; try clear c_g3 f_g3 a_g3 d_g3 e_g3
  replace g3 := g3.below b; have c_g3 := g3.cell; have f_g3 := g3.free; have a_g3 := fun o => (g3.alloc o).cell; have d_g3 := fun o o2 => ((g3.alloc o).alloc o2).cell; have e_g3 := fun o => (g3.alloc o).free; replace B := B.trans (b.mono B.size); clear b
  go_wp2_with fail
  refine (FT.out _ (H.out.below B)).mono ?_
  rintro e wa3 ⟨rfl, b⟩
  try clear c_g1 f_g1 a_g1 d_g1 e_g1
  replace g1 := g1.below b; have c_g1 := g1.cell; have f_g1 := g1.free; have a_g1 := fun o => (g1.alloc o).cell; have d_g1 := fun o o2 => ((g1.alloc o).alloc o2).cell; have e_g1 := fun o => (g1.alloc o).free; try clear c_g2 f_g2 a_g2 d_g2 e_g2
  replace g2 := g2.below b; have c_g2 := g2.cell; have f_g2 := g2.free; have a_g2 := fun o => (g2.alloc o).cell; have d_g2 := fun o o2 => ((g2.alloc o).alloc o2).cell; have e_g2 := fun o => (g2.alloc o).free; try clear c_g3 f_g3 a_g3 d_g3 e_g3
  replace g3 := g3.below b; have c_g3 := g3.cell; have f_g3 := g3.free; have a_g3 := fun o => (g3.alloc o).cell; have d_g3 := fun o o2 => ((g3.alloc o).alloc o2).cell; have e_g3 := fun o => (g3.alloc o).free; replace B := B.trans (b.mono B.size); clear b
  go_upto_region 7 with (fail)
  have HG := Lib.hid (And.intro g1 (And.intro g2 (And.intro g3 B)))
  have hB := B.size
  clear c_g1 c_g2 f_g1 f_g2 a_g1 a_g2 d_g1 d_g2 e_g1 e_g2 c_g3 f_g3 a_g3 d_g3 e_g3
  refine wp_region_G (val := GMod.val) (V := fun g => OwnM g.W1 wa3.heap.size 67 g.t g.o g.s m ∧ Below wa3.heap.size wa3 g.W1)
    (F := fun g => FL [1, 9] (wsC wa3 (w.heap.size + 1 + 1) g) 1 2) [1, 1, 9] 1 ⟨undef, undef, undef, wa3⟩ 49 #[.agg #[tv, ov, sv]] (fun g => FL.dep) (by kernel_rfl) (by kernel_rfl) (by kernel_rfl) (fun g g' φ W hφ hF => FL.agree (Ws := wsC wa3 (w.heap.size + 1 + 1) g) (Ws' := wsC wa3 (w.heap.size + 1 + 1) g') (k0 := 1) rfl rfl hφ hF) FL.start (by decide) ?_ ?_
  · intro φ W hφ hF
    obtain ⟨rfl, _⟩ := FL.step (i := 0) rfl (by decide) hF hφ (by intro p hp; omega) (by omega)
    refine (CP.out wa3.drew (H.out.below B.drew)).mono ?_
    rintro e W1 ⟨t', o', s', rfl, om, b1⟩
    have b1' : Below wa3.heap.size wa3 W1 := (Below.refl _ wa3).drew.trans b1
    have hF' := FL.agree (Ws := wsC wa3 (w.heap.size + 1 + 1) ⟨undef, undef, undef, wa3⟩) (Ws' := wsC wa3 (w.heap.size + 1 + 1) ⟨t', o', s', W1⟩) (k0 := 1) rfl rfl hφ hF
    exact ⟨⟨t', o', s', W1⟩, ⟨om, b1'⟩, rfl, (FL.step (i := 0) rfl (by decide) hF' hφ (by intro p hp; omega) (by omega)).2⟩
  · rintro ⟨t', o', s', W1⟩ ⟨om, b1⟩
    dsimp only at om b1 ⊢
    obtain ⟨⟨tA, tn, tc, rfl⟩, ⟨oA, on, oc, rfl⟩, ⟨sA, sn, sc, rfl⟩⟩ := om.forms
    have r3 := g3.below b1
    have AL : ∀ d, d ≤ 2 → Below w.heap.size w (wsC wa3 (w.heap.size + 1 + 1) ⟨.slice tA tn tc, .slice oA on oc, .slice sA sn sc, W1⟩ d) ∧ Bx (wsC wa3 (w.heap.size + 1 + 1) ⟨.slice tA tn tc, .slice oA on oc, .slice sA sn sc, W1⟩ d) w.heap.size 26 #[tv, ov, sv] ∧ Bx (wsC wa3 (w.heap.size + 1 + 1) ⟨.slice tA tn tc, .slice oA on oc, .slice sA sn sc, W1⟩ d) (w.heap.size + 1) 28 #[.int .i64 k, .int .i64 g] := by
      intro d hd
      rcases d with _ | _ | d
      · exact ⟨B.drew, g1, g2⟩
      · exact ⟨B.trans (b1.mono hB), g1.below b1, g2.below b1⟩
      · refine ⟨?_, ?_, ?_⟩
        · exact (((B.trans (b1.mono hB)).setCell (p := ⟨w.heap.size + 1 + 1, 0, none⟩) (by simp; omega) _).setCell (p := ⟨w.heap.size + 1 + 1, 1, none⟩) (by simp; omega) _).setCell (p := ⟨w.heap.size + 1 + 1, 2, none⟩) (by simp; omega) _
        · exact (((g1.below b1).far (p := ⟨w.heap.size + 1 + 1, 0, none⟩) (by show _ ≠ w.heap.size + 1 + 1; omega) _).far (p := ⟨w.heap.size + 1 + 1, 1, none⟩) (by show _ ≠ w.heap.size + 1 + 1; omega) _).far (p := ⟨w.heap.size + 1 + 1, 2, none⟩) (by show _ ≠ w.heap.size + 1 + 1; omega) _
        · exact (((g2.below b1).far (p := ⟨w.heap.size + 1 + 1, 0, none⟩) (by show _ ≠ w.heap.size + 1 + 1; omega) _).far (p := ⟨w.heap.size + 1 + 1, 1, none⟩) (by show _ ≠ w.heap.size + 1 + 1; omega) _).far (p := ⟨w.heap.size + 1 + 1, 2, none⟩) (by show _ ≠ w.heap.size + 1 + 1; omega) _
    have AA := Lib.hid (fun x : FXN (FL [1, 9] (wsC wa3 (w.heap.size + 1 + 1) ⟨.slice tA tn tc, .slice oA on oc, .slice sA sn sc, W1⟩) 1 2) => FL.all (ks := [1, 9]) (Ws := wsC wa3 (w.heap.size + 1 + 1) ⟨.slice tA tn tc, .slice oA on oc, .slice sA sn sc, W1⟩) (p := fun W => Below w.heap.size w W ∧ Bx W w.heap.size 26 #[tv, ov, sv] ∧ Bx W (w.heap.size + 1) 28 #[.int .i64 k, .int .i64 g]) AL x)
    have ca := fun x : FXN (FL [1, 9] (wsC wa3 (w.heap.size + 1 + 1) ⟨.slice tA tn tc, .slice oA on oc, .slice sA sn sc, W1⟩) 1 2) => (AA.out x).2.1.cell
    have cb := fun x : FXN (FL [1, 9] (wsC wa3 (w.heap.size + 1 + 1) ⟨.slice tA tn tc, .slice oA on oc, .slice sA sn sc, W1⟩) 1 2) => (AA.out x).2.2.cell
    have cc := fun x : FXN (FL [1, 9] (wsC wa3 (w.heap.size + 1 + 1) ⟨.slice tA tn tc, .slice oA on oc, .slice sA sn sc, W1⟩) 1 2) => cell_later (AA.out x).1 m2
    haveI : Nonempty (FXN (FL [1, 9] (wsC wa3 (w.heap.size + 1 + 1) ⟨.slice tA tn tc, .slice oA on oc, .slice sA sn sc, W1⟩) 1 2)) := ⟨⟨_, _, FL.start⟩⟩
    refine wpG_read FL.dep rfl (by decide) (by decide) ?_; go_big_quiet_step (fail); refine wpQuiet_nil ?_
    refine wpG_call #[.agg #[tv, ov, sv]] rfl (by simp [Act.eval]) (enter_copied _) ?_
    simp only [Act.put, List.setIfInBounds_toArray, List.set_cons_zero, List.set_cons_succ]
    iterate 7 (refine wpG_read FL.dep rfl (by decide) (by decide) ?_; go_big_quiet_step (fail); refine wpQuiet_nil ?_)
    have c3 := r3.cell; have f3 := r3.free
    refine wpG_store FL.dep (by decide) rfl 26 (.tmp 4) (.tmp 23) rfl (by rfl) (p := .pointer (some ⟨w.heap.size + 1 + 1, 0, none⟩)) (u := .agg #[.slice tA tn tc, .slice oA on oc, .slice sA sn sc]) (by rfl) (by rfl) [1] (by kernel_rfl) (fun f W hF h0 h1 => ?_) ?_
    · obtain ⟨rfl, h2⟩ := FL.step (i := 1) rfl (by decide) hF h0 (FL.prev (p := 0) (q := 1) rfl (h1 1 (by simp))) (by omega)
      refine ⟨_, ?_, h2⟩
      simp [go_sem, wsC, c3, f3]
    simp only [Act.put, List.setIfInBounds_toArray, List.set_cons_zero, List.set_cons_succ]
    iterate 2 (refine wpG_read FL.dep rfl (by decide) (by decide) ?_; go_big_quiet_step (fail); refine wpQuiet_nil ?_)
    refine wpG_nil ?_
    intro w' hw'
    obtain rfl := FL.done hw'
    have HM := Lib.hid (OwnM.set3 (a := .slice tA tn tc) (b := .slice oA on oc) (c := .slice sA sn sc) (om.mono hB) r3)
    have BB := Lib.hid (AL 2 (Nat.le_refl _)).1
    have g3' : Bx ((((W1.setCell ⟨w.heap.size + 1 + 1, 0, none⟩ (.slice tA tn tc)).setCell ⟨w.heap.size + 1 + 1, 1, none⟩ (.slice oA on oc)).setCell ⟨w.heap.size + 1 + 1, 2, none⟩ (.slice sA sn sc))) (w.heap.size + 1 + 1) 26 #[.slice tA tn tc, .slice oA on oc, .slice sA sn sc] := by
      have := ((r3.set (i := 0) (.slice tA tn tc)).set (i := 1) (.slice oA on oc)).set (i := 2) (.slice sA sn sc)
      simpa using this
    have c3' := g3'.cell
    clear this ca cb cc c3 f3 AL AA om b1 g1 g2 g3 B r3 hw'
    show _
    generalize hW : (((W1.setCell ⟨w.heap.size + 1 + 1, 0, none⟩ (.slice tA tn tc)).setCell ⟨w.heap.size + 1 + 1, 1, none⟩ (.slice oA on oc)).setCell ⟨w.heap.size + 1 + 1, 2, none⟩ (.slice sA sn sc)) = W4 at c3' HM
    have hw4 : wsC wa3 (w.heap.size + 1 + 1) ⟨.slice tA tn tc, .slice oA on oc, .slice sA sn sc, W1⟩ [1, 9].length = W4 := hW
    rw [hw4]
    have BB2 := BB.out
    rw [show wsC wa3 (w.heap.size + 1 + 1) ⟨.slice tA tn tc, .slice oA on oc, .slice sA sn sc, W1⟩ 2 = W4 from hW] at BB2
    have BB3 := Lib.hid BB2
    clear hW hw4 BB BB2 g3'
    go_wp2
    refine bodyPost_ret (v := .tuple #[.agg #[.slice tA tn tc, .slice oA on oc, .slice sA sn sc], .int .i64 n', .int .i64 0]) (by simp [results, Try.results55, go_sem, c3']) rfl ?_
    exact ⟨_, _, _, rfl, HM.out, BB3.out⟩
end Go.Proofs.Ytgjpohhafmkhcaa
