/- Contracts of the functions that the laws 'N' reach, part 8. No condition. -/
import Derived.Test.YteejianjjpdimaaMNg
set_option linter.unusedVariables false
set_option linter.unusedSimpArgs false
namespace Go.Proofs.Yteejianjjpdimaa
open Go.RowKit L02 L13 L18 L20
theorem tabL_set (S : List Sl) (k : Nat) (s : Sl) (hk : k < S.length) : (((tabL S).set (k * 3) (.int .i64 s.gen)).set (k * 3 + 1) (.bool s.used)).set (k * 3 + 2) (.int .i64 s.at_) = tabL (S.set k s) := by
  apply List.ext_getElem?
  intro i
  by_cases hi : i < S.length * 3
  · obtain ⟨q, r, hr, rfl⟩ : ∃ q r, r < 3 ∧ i = q * 3 + r := ⟨i / 3, i % 3, Nat.mod_lt _ (by omega), by omega⟩
    have hq : q < S.length := by omega
    by_cases hqk : q = k
    · subst hqk
      have h1 := tabL_get (S.set q s) q s (by simp [hq]) r hr
      rw [h1]
      have hl : (tabL S).length = S.length * 3 := tabL_len S
      have : r = 0 ∨ r = 1 ∨ r = 2 := by omega
      rcases this with rfl | rfl | rfl
      · rw [List.getElem?_set_ne (by omega), List.getElem?_set_ne (by omega), Nat.add_zero, List.getElem?_set_self (by omega)]; rfl
      · rw [List.getElem?_set_ne (by omega), List.getElem?_set_self (by simp; omega)]; rfl
      · rw [List.getElem?_set_self (by simp; omega)]; rfl
    · have hs : S[q]? = some S[q] := List.getElem?_eq_getElem hq
      have h1 := tabL_get (S.set k s) q S[q] (by rw [List.getElem?_set_ne (Ne.symm hqk)]; exact hs) r hr
      have h2 := tabL_get S q S[q] hs r hr
      rw [h1, List.getElem?_set_ne (by omega), List.getElem?_set_ne (by omega), List.getElem?_set_ne (by omega), h2]
  · rw [List.getElem?_eq_none (by simp [tabL_len]; omega), List.getElem?_eq_none (by simp [tabL_len]; omega)]
/-- one slot is stored -/
theorem OwnS.put3 {w : World} {B E g n c k : Nat} {S : List Sl} (h : OwnS w B E (.slice (some ⟨g, 0, none⟩) n c) S) (hk : k < S.length) (s : Sl) :
    OwnS (((w.setCell ⟨g, k * 3, none⟩ (.int .i64 s.gen)).setCell ⟨g, k * 3 + 1, none⟩ (.bool s.used)).setCell ⟨g, k * 3 + 2, none⟩ (.int .i64 s.at_)) B E (.slice (some ⟨g, 0, none⟩) n c) (S.set k s) ∧
      w.grownBy (((w.setCell ⟨g, k * 3, none⟩ (.int .i64 s.gen)).setCell ⟨g, k * 3 + 1, none⟩ (.bool s.used)).setCell ⟨g, k * 3 + 2, none⟩ (.int .i64 s.at_)) (some g) ∧ B ≤ g ∧ g < w.heap.size ∧ ∀ j, w.frozen? ⟨g, j, none⟩ = false := by
  have hn : n = S.length := by
    obtain ⟨g', cap, cur, hv, _⟩ := own_form h (by omega)
    injection hv
  subst hn
  have h1 := World.ownsRow.stored h (k * 3) (.int .i64 s.gen)
  have h2 := World.ownsRow.stored h1.1 (k * 3 + 1) (.bool s.used)
  have h3 := World.ownsRow.stored h2.1 (k * 3 + 2) (.int .i64 s.at_)
  have hl := h.lt g rfl
  refine ⟨?_, ⟨rfl, rfl, rfl, ?_, fun q hq hne => ?_⟩, hl.1, hl.2, fun j => h.frozenAt j⟩
  · unfold OwnS
    rw [← tabL_set S k s hk, List.length_set]
    exact h3.1
  · simp [World.setCell]
  · exact (h3.2.block q (by simpa [World.setCell] using hq) hne).trans ((h2.2.block q (by simpa [World.setCell] using hq) hne).trans (h1.2.block q hq hne))
theorem OwnS.form {w : World} {B E : Nat} {v : Value} {S : List Sl} (h : OwnS w B E v S) (hn : 0 < S.length) : ∃ g n c, v = .slice (some ⟨g, 0, none⟩) n c ∧ n = S.length := by
  obtain ⟨g, cap, cur, hv, _⟩ := own_form h hn
  exact ⟨g, _, cap, hv, rfl⟩
theorem OwnS.cells {w : World} {B E g n c k : Nat} {S : List Sl} {s : Sl} (h : OwnS w B E (.slice (some ⟨g, 0, none⟩) n c) S) (hs : S[k]? = some s) :
    (∀ W, (Instr.indexAt 24 (.slice (some ⟨g, 0, none⟩) n c) (.int .i64 (k : Int))).run Try.prog W = .ok (.pointer (some ⟨g, k * 3, none⟩)) W) ∧ w.cell? ⟨g, k * 3, none⟩ = some (.int .i64 s.gen) ∧ w.cell? ⟨g, k * 3 + 1, none⟩ = some (.bool s.used) ∧ w.cell? ⟨g, k * 3 + 2, none⟩ = some (.int .i64 s.at_) := by
  have hk : k < S.length := (List.getElem?_eq_some_iff.1 hs).1
  have t0 := Rd.cell (OwnS.rd h) (tabL_get S k s hs 0 (by omega))
  have t1 := Rd.cell (OwnS.rd h) (tabL_get S k s hs 1 (by omega))
  have t2 := Rd.cell (OwnS.rd h) (tabL_get S k s hs 2 (by omega))
  refine ⟨fun W => ?_, ?_, ?_, ?_⟩
  · have := Rd.ixN (P := Try.prog) (OwnS.rd h) Try.underlying24 size_slot hk W
    simpa [cellAt] using this
  · simpa [cellAt] using t0
  · simpa [cellAt] using t1
  · simpa [cellAt] using t2
/-- a model's own slots changed, all else kept -/
theorem OwnM.slots {w W : World} {B g n c : Nat} {tv ov : Value} {m : Mo} {S : List Sl} (h : OwnM w B 48 tv ov (.slice (some ⟨g, 0, none⟩) n c) m) (hg : w.grownBy W (some g)) (hS : OwnS W B 48 (.slice (some ⟨g, 0, none⟩) n c) S) :
    OwnM W B 48 tv ov (.slice (some ⟨g, 0, none⟩) n c) ⟨m.types, m.objs, S⟩ := by
  refine ⟨OwnT.kept h.t h.s hg (by decide) (by decide), ?_, hS⟩
  obtain ⟨vs, a1, a2, a4, a5⟩ := h.o
  exact ⟨vs, a1, World.ownsRow.kept a2 hg (own_unlike a2 h.s (by decide)), fun i x l h5 h6 => World.ownsRow.kept (a4 i x l h5 h6) hg (own_unlike (a4 i x l h5 h6) h.s (by decide)), a5⟩
/-- all old blocks but one are as they were -/
def Keep (w w' : World) (row : Option Nat) : Prop := w.heap.size ≤ w'.heap.size ∧ ∀ k, k < w.heap.size → some k ≠ row → w'.heap[k]? = w.heap[k]?
theorem Keep.of_below {w w' : World} {row : Option Nat} (h : Below w.heap.size w w') : Keep w w' row := ⟨h.size, fun k hk _ => h.block k hk⟩
theorem Keep.grown {w w' w'' : World} {row : Option Nat} (h : Keep w w' row) (hg : w'.grownBy w'' row) : Keep w w'' row := ⟨Nat.le_trans h.1 hg.size, fun k hk hr => (hg.block k (Nat.lt_of_lt_of_le hk h.1) hr).trans (h.2 k hk hr)⟩
theorem Keep.setCell {w w' : World} {row : Option Nat} (h : Keep w w' row) {p : Addr} (hp : w.heap.size ≤ p.block) (u : Value) : Keep w (w'.setCell p u) row :=
  ⟨by simpa [World.setCell] using h.1, fun k hk hr => (Below.heap_setCell w' p u k (by omega)).trans (h.2 k hk hr)⟩
theorem Bx.keep {w w' : World} {g : Nat} {t : TypeId} {cs : Array Value} {row : Option Nat} (h : Bx w g t cs) (hk : Keep w w' row) (hne : row = none ∨ row ≠ some g) : Bx w' g t cs := by
  have hl := h.lt
  unfold Bx at *
  rw [hk.2 g hl (by
    rcases hne with rfl | h
    · simp
    · exact fun e => h e.symm)]
  exact h
theorem OwnM.setH {w : World} {B p i : Nat} {tv ov sv u : Value} {m : Mo} {cs : Array Value} (h : OwnM w B 48 tv ov sv m) (hg : Bx w p 50 cs) : OwnM (w.setCell ⟨p, i, none⟩ u) B 48 tv ov sv m :=
  ⟨h.t.set hg (by decide) (by decide), h.o.set hg (by decide) (by decide), own_set h.s hg (by decide)⟩
set_option maxRecDepth 100000 in
set_option maxHeartbeats 4000000 in
theorem handle_ok (tv ov sv : Value) (m : Mo) (n : Int) (kk : Nat) (s : Sl) (hnx : next m.slots = some kk) (hs : m.slots[kk]? = some s) (hgen : ∀ s ∈ m.slots, 0 ≤ s.gen ∧ s.gen ≤ 2147483647) (hlen : m.slots.length = 16) (B0 : Nat) (w : World) (h : OwnM w B0 48 tv ov sv m) (hB : B0 ≤ w.heap.size) :
    Calls Try.prog 33 #[.agg #[tv, ov, sv], .int .i64 n] w fun e w' => e = .returned (.tuple #[.agg #[.int .i64 kk, .int .i64 (s.gen + 1)], .bool true]) ∧ OwnM w' B0 48 tv ov sv ⟨m.types, m.objs, m.slots.set kk ⟨s.gen + 1, true, n⟩⟩ ∧ Below B0 w w' ∧ Keep w w' sv.ownBlock := by
  have B : Below w.heap.size w w := Below.refl _ _
  obtain ⟨gS, sc, rfl⟩ : ∃ g c, sv = .slice (some ⟨g, 0, none⟩) 16 c := by obtain ⟨g, n, c, e, e2⟩ := h.s.form (by omega); rw [e2, hlen] at e; exact ⟨g, c, e⟩
  have ls := h.rd.s.len
  rw [hlen] at ls
  obtain ⟨_, ⟨s', hs', hu, hg1⟩, hbefore⟩ := nextFrom_some hnx
  rw [Nat.sub_zero] at hs' hbefore
  obtain rfl : s' = s := by rw [hs] at hs'; injection hs' with e; exact e.symm
  have hkk : kk < 16 := by have := (List.getElem?_eq_some_iff.1 hs).1; omega
  have hg2 := hgen s' (List.mem_of_getElem? hs)
  have H := Lib.hid h; have HS := Lib.hid hs; have HBF := Lib.hid hbefore; have HL := Lib.hid hlen; have HGEN := Lib.hid hgen
  have hmx : s'.gen < 2147483647 := by omega
  obtain ⟨gn, us, sa⟩ := s'
  dsimp only at hu hmx hg2 ⊢
  subst hu
  have hwr : IntKind.i64.wrap (gn + 1) = gn + 1 := IntWalk.i64_in _ (by omega)
  clear hs hs' hbefore hnx hgen hg1
  go_enter Try.func33, Try.ntmps33
  go_upto_region 1 with (fail)
  refine wp_gen (fun Wv => Bx Wv (w.heap.size) (26) (#[tv, ov, .slice (some ⟨gS, 0, none⟩) 16 sc]) ∧ Bx Wv (w.heap.size + 1) (50) (#[.int .i64 0, .int .i64 0]) ∧ Below w.heap.size w Wv) ⟨(((Bx.at_ (by simp)).alloc _)), ((Bx.at_ (by simp))), (((Below.refl _ w).alloc (by simp <;> omega) _).alloc (by simp <;> omega) _)⟩ ?_
  rintro wa1 ⟨g1, g2, b⟩
  replace B := B.trans (b.mono B.size); clear b
  have c_g1 := g1.cell; have f_g1 := g1.free; have a_g1 := fun o => (g1.alloc o).cell; have d_g1 := fun o o2 => ((g1.alloc o).alloc o2).cell; have e_g1 := fun o => (g1.alloc o).free
  have c_g2 := g2.cell; have f_g2 := g2.free; have a_g2 := fun o => (g2.alloc o).cell; have d_g2 := fun o o2 => ((g2.alloc o).alloc o2).cell; have e_g2 := fun o => (g2.alloc o).free
  have HG := Lib.hid (And.intro g1 (And.intro g2 B))
  clear g1 g2 B c_g1 c_g2 f_g1 f_g2 a_g1 a_g2 d_g1 d_g2 e_g1 e_g2
  have hwa := HG.out.1.cell
  go_wp2
  clear hwa
  go_loopg [11] kk (fun g i wr => ∃ j : Nat, j ≤ kk ∧ g = kk - j ∧ i = .int .i64 j ∧ Hid (Bx wr w.heap.size 26 #[tv, ov, .slice (some ⟨gS, 0, none⟩) 16 sc] ∧ Bx wr (w.heap.size + 1) 50 #[.int .i64 0, .int .i64 0] ∧ Below w.heap.size w wr))
  case atStart => exact ⟨0, by omega, by omega, rfl, HG⟩
  case round =>
    clear HG
    obtain ⟨j, hj, rfl, rfl, hh⟩ := hrel
    obtain ⟨g1, g2, B⟩ := hh.out
    have hj16 : j < 16 := by omega
    have hx : m.slots[j]? = some (m.slots[j]'(by have := HL.out; omega)) := List.getElem?_eq_getElem _
    obtain ⟨x, hxx⟩ : ∃ x, x = m.slots[j]'(by have := HL.out; omega) := ⟨_, rfl⟩
    rw [← hxx] at hx; clear hxx
    obtain ⟨ix, m0, m1, m2⟩ := OwnS.cells (H.out.s.below B) hx
    have HX := Lib.hid hx; clear hx hh
    obtain ⟨xg, xu, xa⟩ := x
    dsimp only at m0 m1 m2
    have hzr := B.size
    go_upto_region 4 with (fail)
    refine wp_gen (fun Wv => Bx Wv (wr.heap.size) (48) (#[.int .i64 xg, .bool xu, .int .i64 xa]) ∧ Below wr.heap.size wr Wv) ⟨((Bx.at_ (by simp))), ((Below.refl _ wr).alloc (by simp <;> omega) _)⟩ ?_
    rintro wa1 ⟨g3, b⟩
    try clear c_g1 f_g1 a_g1 d_g1 e_g1
    replace g1 := g1.below b; have c_g1 := g1.cell; have f_g1 := g1.free; have a_g1 := fun o => (g1.alloc o).cell; have d_g1 := fun o o2 => ((g1.alloc o).alloc o2).cell; have e_g1 := fun o => (g1.alloc o).free; try clear c_g2 f_g2 a_g2 d_g2 e_g2
    replace g2 := g2.below b; have c_g2 := g2.cell; have f_g2 := g2.free; have a_g2 := fun o => (g2.alloc o).cell; have d_g2 := fun o o2 => ((g2.alloc o).alloc o2).cell; have e_g2 := fun o => (g2.alloc o).free; replace B := B.trans (b.mono B.size); clear b
    have c_g3 := g3.cell; have f_g3 := g3.free; have a_g3 := fun o => (g3.alloc o).cell; have d_g3 := fun o o2 => ((g3.alloc o).alloc o2).cell; have e_g3 := fun o => (g3.alloc o).free
    clear m0 m1 m2
    by_cases hjk : j = kk
    · subst hjk
      have e1 : (⟨xg, xu, xa⟩ : Sl) = ⟨gn, false, sa⟩ := by have := HX.out; rw [HS.out] at this; injection this with e; exact e.symm
      injection e1 with e1 e2 e3
      subst e1; subst e2; subst e3
      have HP := Lib.hid (OwnS.put3 (k := j) (H.out.s.below B) (by have := HL.out; omega) ⟨xg + 1, true, n⟩)
      obtain ⟨_, p0, p1, p2⟩ := OwnS.cells (H.out.s.below B) HX.out
      have fz := HP.out.2.2.2.2
      have HO := Lib.hid (H.out.below B)
      have hne1 : gS ≠ w.heap.size := by
        rcases own_not_bx HO.out.s g1 (by decide) with h | h
        · simp [Value.ownBlock] at h
        · intro e; exact h (by simp [Value.ownBlock, e])
      have hne2 : gS ≠ w.heap.size + 1 := by
        rcases own_not_bx HO.out.s g2 (by decide) with h | h
        · simp [Value.ownBlock] at h
        · intro e; exact h (by simp [Value.ownBlock, e])
      have hne3 : gS ≠ wr.heap.size := by
        have h1 := (H.out.s.lt gS rfl).2; have h2 := hzr; omega
      have fz2 := g2.free
      go_wp2
      refine bodyPost_ret (v := .tuple #[.agg #[.int .i64 j, .int .i64 (xg + 1)], .bool true]) (by simp [results, Try.results33, go_sem, c_g2]) rfl ?_
      have b0 := H.out.below B
      have hM3 := OwnM.slots b0 HP.out.2.1 HP.out.1
      have r2 : Bx _ (w.heap.size + 1) 50 _ := g2.grown HP.out.2.1 (.inr (fun e => hne2 (by injection e)))
      have hb1 : Keep w _ (some gS) := (Keep.of_below B).grown HP.out.2.1
      have hB3 := (B.mono hB).grown HP.out.2.1 (Nat.le_trans hB B.size) (fun k hk => by injection hk with hk; rw [← hk]; exact HP.out.2.2.1)
      refine ⟨rfl, (hM3.setH r2).setH (r2.set _), ?_, ?_⟩
      · exact (hB3.setCell (p := ⟨w.heap.size + 1, 0, none⟩) (by simp; omega) _).setCell (p := ⟨w.heap.size + 1, 1, none⟩) (by simp; omega) _
      · exact (hb1.setCell (p := ⟨w.heap.size + 1, 0, none⟩) (by simp) _).setCell (p := ⟨w.heap.size + 1, 1, none⟩) (by simp) _
    · have hjk2 : j < kk := by omega
      have hnf := HBF.out j _ hjk2 HX.out
      have hgx := HGEN.out _ (List.mem_of_getElem? HX.out)
      dsimp only at hnf hgx
      have hj2 : (j : Int) < 16 := by omega
      have HH := Lib.hid (And.intro g1 (And.intro g2 B))
      cases xu
      · have hge : ¬ xg < 2147483647 := fun h => hnf ⟨rfl, by omega⟩
        clear hnf
        go_wp2
        clear g1 g2 g3 B c_g1 c_g2 f_g1 f_g2 a_g1 a_g2 d_g1 d_g2 e_g1 e_g2 c_g3 f_g3 a_g3 d_g3 e_g3
        go_roundg (kk - (j + 1))
        case measure => omega
        case rel => exact ⟨j + 1, by omega, rfl, by go_num, HH⟩
      · clear hnf
        go_wp2
        clear g1 g2 g3 B c_g1 c_g2 f_g1 f_g2 a_g1 a_g2 d_g1 d_g2 e_g1 e_g2 c_g3 f_g3 a_g3 d_g3 e_g3
        go_roundg (kk - (j + 1))
        case measure => omega
        case rel => exact ⟨j + 1, by omega, rfl, by go_num, HH⟩
set_option maxRecDepth 100000 in
set_option maxHeartbeats 4000000 in
theorem handle_no (tv ov sv : Value) (m : Mo) (n : Int) (hnx : next m.slots = none) (hgen : ∀ s ∈ m.slots, 0 ≤ s.gen ∧ s.gen ≤ 2147483647) (hlen : m.slots.length = 16) (w : World) (h : Mod w tv ov sv m) :
    Calls Try.prog 33 #[.agg #[tv, ov, sv], .int .i64 n] w fun e w' => e = .returned (.tuple #[.agg #[.int .i64 0, .int .i64 0], .bool false]) ∧ Below w.heap.size w w' := by
  have B : Below w.heap.size w w := Below.refl _ _
  have ls := h.s.len
  rw [hlen] at ls
  have hall : ∀ (j : Nat) (s : Sl), m.slots[j]? = some s → ¬ (s.used = false ∧ s.gen < 2147483647) := by
    have aux : ∀ (L : List Sl) (k : Nat), nextFrom L k = none → ∀ (j : Nat) (s : Sl), L[j]? = some s → ¬ (s.used = false ∧ s.gen ≠ 2147483647) := by
      intro L
      induction L with
      | nil => intro k _ j s hs; simp at hs
      | cons x L ih =>
        intro k hk j s hs
        rw [nextFrom] at hk
        split at hk
        · cases hk
        · rename_i hx
          cases j with
          | zero => simp at hs; subst hs; exact hx
          | succ j => exact ih _ hk j s (by simpa using hs)
    intro j s hs hh
    exact aux _ _ hnx j s hs ⟨hh.1, by have := hh.2; omega⟩
  have H := Lib.hid h; have HL := Lib.hid hlen; have HA := Lib.hid hall
  clear hnx hgen hlen h hall
  go_enter Try.func33, Try.ntmps33
  go_upto_region 1 with (fail)
  refine wp_gen (fun Wv => Bx Wv (w.heap.size) (26) (#[tv, ov, sv]) ∧ Bx Wv (w.heap.size + 1) (50) (#[.int .i64 0, .int .i64 0]) ∧ Below w.heap.size w Wv) ⟨(((Bx.at_ (by simp)).alloc _)), ((Bx.at_ (by simp))), (((Below.refl _ w).alloc (by simp <;> omega) _).alloc (by simp <;> omega) _)⟩ ?_
  rintro wa1 ⟨g1, g2, b⟩
  replace B := B.trans (b.mono B.size); clear b
  have c_g1 := g1.cell; have f_g1 := g1.free; have a_g1 := fun o => (g1.alloc o).cell; have d_g1 := fun o o2 => ((g1.alloc o).alloc o2).cell; have e_g1 := fun o => (g1.alloc o).free
  have c_g2 := g2.cell; have f_g2 := g2.free; have a_g2 := fun o => (g2.alloc o).cell; have d_g2 := fun o o2 => ((g2.alloc o).alloc o2).cell; have e_g2 := fun o => (g2.alloc o).free
  have HG := Lib.hid (And.intro g1 (And.intro g2 B))
  clear g1 g2 B c_g1 c_g2 f_g1 f_g2 a_g1 a_g2 d_g1 d_g2 e_g1 e_g2
  have hwa := HG.out.1.cell
  go_wp2
  clear hwa
  go_loopg [11] 16 (fun g i wr => ∃ j : Nat, j ≤ 16 ∧ g = 16 - j ∧ i = .int .i64 j ∧ Hid (Bx wr w.heap.size 26 #[tv, ov, sv] ∧ Bx wr (w.heap.size + 1) 50 #[.int .i64 0, .int .i64 0] ∧ Below w.heap.size w wr))
  case atStart => exact ⟨0, by omega, by omega, rfl, HG⟩
  case round =>
    clear HG
    obtain ⟨j, hj, rfl, rfl, hh⟩ := hrel
    obtain ⟨g1, g2, B⟩ := hh.out
    clear hh
    by_cases hlt : j < 16
    · obtain ⟨b, o, s, ix, m0, m1, m2, hs⟩ := (H.out.s.below B).at_ (P := Try.prog) Try.underlying24 size_slot (k := j) (by have := HL.out; omega)
      have hnf := HA.out j s hs.out
      clear hs
      obtain ⟨xg, xu, xa⟩ := s
      dsimp only at m0 m1 m2 hnf
      go_upto_region 4 with (fail)
      refine wp_gen (fun Wv => Bx Wv (wr.heap.size) (48) (#[.int .i64 xg, .bool xu, .int .i64 xa]) ∧ Below wr.heap.size wr Wv) ⟨((Bx.at_ (by simp))), ((Below.refl _ wr).alloc (by simp <;> omega) _)⟩ ?_
      rintro wa1 ⟨g3, b⟩
      try clear c_g1 f_g1 a_g1 d_g1 e_g1
      replace g1 := g1.below b; have c_g1 := g1.cell; have f_g1 := g1.free; have a_g1 := fun o => (g1.alloc o).cell; have d_g1 := fun o o2 => ((g1.alloc o).alloc o2).cell; have e_g1 := fun o => (g1.alloc o).free; try clear c_g2 f_g2 a_g2 d_g2 e_g2
      replace g2 := g2.below b; have c_g2 := g2.cell; have f_g2 := g2.free; have a_g2 := fun o => (g2.alloc o).cell; have d_g2 := fun o o2 => ((g2.alloc o).alloc o2).cell; have e_g2 := fun o => (g2.alloc o).free; replace B := B.trans (b.mono B.size); clear b
      have c_g3 := g3.cell; have f_g3 := g3.free; have a_g3 := fun o => (g3.alloc o).cell; have d_g3 := fun o o2 => ((g3.alloc o).alloc o2).cell; have e_g3 := fun o => (g3.alloc o).free
      clear m0 m1 m2
      have HH := Lib.hid (And.intro g1 (And.intro g2 B))
      cases xu
      · have hge : ¬ xg < 2147483647 := fun h => hnf ⟨rfl, h⟩
        clear hnf
        go_wp2
        clear g1 g2 g3 B c_g1 c_g2 f_g1 f_g2 a_g1 a_g2 d_g1 d_g2 e_g1 e_g2 c_g3 f_g3 a_g3 d_g3 e_g3
        go_roundg (16 - (j + 1))
        case measure => omega
        case rel => exact ⟨j + 1, by omega, rfl, by go_num, HH⟩
      · clear hnf
        go_wp2
        clear g1 g2 g3 B c_g1 c_g2 f_g1 f_g2 a_g1 a_g2 d_g1 d_g2 e_g1 e_g2 c_g3 f_g3 a_g3 d_g3 e_g3
        go_roundg (16 - (j + 1))
        case measure => omega
        case rel => exact ⟨j + 1, by omega, rfl, by go_num, HH⟩
    · obtain rfl : j = 16 := by omega
      have c_g2 := g2.cell; have f_g2 := g2.free
      go_wp2
      refine bodyPost_ret (v := .tuple #[.agg #[.int .i64 0, .int .i64 0], .bool false]) (by simp [results, Try.results33, go_sem, c_g2]) rfl ⟨rfl, ?_⟩
      exact (B.setCell (p := ⟨w.heap.size + 1, 0, none⟩) (by simp) _).setCell (p := ⟨w.heap.size + 1, 1, none⟩) (by simp) _
end Go.Proofs.Yteejianjjpdimaa
namespace Go.Proofs.Yteejianjjpdimaa
open Go.RowKit L02 L13 L18 L20
/-- objects of the call's own, of which number n has its fields in block gf -/
def OwnF (w : World) (base : Nat) (v : Value) (L : List Ob) (n gf : Nat) : Prop := ∃ (vs : List Value) (nf cf : Nat), vs.length = L.length ∧ w.ownsRow base 45 2 v L.length (obC L vs) ∧ (∀ (i : Nat) x o, vs[i]? = some x → L[i]? = some o → OwnW w base 46 x o.fs) ∧
  (∀ (i j : Nat) x y, i ≠ j → vs[i]? = some x → vs[j]? = some y → x.ownBlock = none ∨ x.ownBlock ≠ y.ownBlock) ∧ vs[n]? = some (.slice (some ⟨gf, 0, none⟩) nf cf)
theorem OwnF.own {w : World} {base n gf : Nat} {v : Value} {L : List Ob} (h : OwnF w base v L n gf) : OwnO w base v L := by
  obtain ⟨vs, nf, cf, h1, h2, h4, h5, _⟩ := h; exact ⟨vs, h1, h2, h4, h5⟩
theorem OwnF.below {w w' : World} {base n gf : Nat} {v : Value} {L : List Ob} (h : OwnF w base v L n gf) (hb : Below w.heap.size w w') : OwnF w' base v L n gf := by
  obtain ⟨vs, nf, cf, h1, h2, h4, h5, h6⟩ := h; exact ⟨vs, nf, cf, h1, own_below h2 hb, fun i x l h5 h6 => (h4 i x l h5 h6).below hb, h5, h6⟩
theorem OwnF.mono {w : World} {base base' n gf : Nat} {v : Value} {L : List Ob} (h : OwnF w base v L n gf) (hb : base' ≤ base) : OwnF w base' v L n gf := by
  obtain ⟨vs, nf, cf, h1, h2, h4, h5, h6⟩ := h; exact ⟨vs, nf, cf, h1, own_mono h2 hb, fun i x l h5 h6 => own_mono (h4 i x l h5 h6) hb, h5, h6⟩
theorem OwnF.set {w : World} {B p i n gf : Nat} {v u : Value} {L : List Ob} {t : TypeId} {cs : Array Value} (h : OwnF w B v L n gf) (hg : Bx w p t cs) (h1 : 45 ≠ t) (h2 : 46 ≠ t) : OwnF (w.setCell ⟨p, i, none⟩ u) B v L n gf := by
  obtain ⟨vs, nf, cf, a1, a2, a4, a5, a6⟩ := h; exact ⟨vs, nf, cf, a1, own_set a2 hg h1, fun i x l h5 h6 => own_set (a4 i x l h5 h6) hg h2, a5, a6⟩
theorem OwnF.cell {w : World} {base n gf i : Nat} {v : Value} {L : List Ob} {o : Ob} {x : UInt64} (h : OwnF w base v L n gf) (ho : L[n]? = some o) (hx : o.fs[i]? = some x) :
    w.cell? ⟨gf, i, none⟩ = some (.int .u64 x.toNat) ∧ w.frozen? ⟨gf, i, none⟩ = false ∧ base ≤ gf ∧ gf < w.heap.size := by
  obtain ⟨vs, nf, cf, h1, h2, h4, h5, h6⟩ := h
  have hr := h4 n _ _ h6 ho
  have hi : i < o.fs.length := (List.getElem?_eq_some_iff.1 hx).1
  have hn : nf = o.fs.length := by
    obtain ⟨g', cap, cur, hv, _⟩ := own_form hr (by omega)
    injection hv
  subst hn
  have hl := hr.lt gf rfl
  have hc := Rd.cell (OwnW.rd hr) (j := i) (u := u64 x) (by rw [List.getElem?_map, hx]; rfl)
  refine ⟨?_, hr.frozenAt i, hl.1, hl.2⟩
  simpa [cellAt, u64] using hc
/-- where an own object lies; x the slice of its fields -/
theorem OwnO.at_ {w : World} {base : Nat} {v : Value} {L : List Ob} (h : OwnO w base v L) {n : Nat} {o : Ob} (ho : L[n]? = some o) (hf : 0 < o.fs.length) :
    ∃ b q gf nf cf, (∀ W, (Instr.indexAt 23 v (.int .i64 (n : Int))).run Try.prog W = .ok (.pointer (some ⟨b, q, none⟩)) W) ∧ w.cell? ⟨b, q, none⟩ = some (.int .i64 o.ty) ∧ w.cell? ⟨b, q + 1, none⟩ = some (.slice (some ⟨gf, 0, none⟩) nf cf) ∧ b < w.heap.size ∧ OwnF w base v L n gf ∧ nf = o.fs.length ∧
      ∀ i, i < o.fs.length → ∀ W, (Instr.indexAt 43 (.slice (some ⟨gf, 0, none⟩) nf cf) (.int .i64 (i : Int))).run Try.prog W = .ok (.pointer (some ⟨gf, i, none⟩)) W := by
  obtain ⟨vs, h1, h2, h4, h5⟩ := h
  have hk : n < L.length := (List.getElem?_eq_some_iff.1 ho).1
  have hv : vs[n]? = some vs[n] := List.getElem?_eq_getElem (by omega)
  have hr := h4 n _ _ hv ho
  obtain ⟨gf, cap, cur, hvv, _⟩ := own_form hr hf
  have hix := fun W => Rd.ixN (P := Try.prog) (Rd.of_own h2) Try.underlying23 size_obj hk W
  obtain ⟨b, q, c, rfl, hb, hc, hcell⟩ := Rd.form (Rd.of_own h2) (by omega)
  obtain ⟨c0, c1⟩ := obC_get ho hv
  rw [hvv] at c1 hv hr
  refine ⟨b, q + n * 2, gf, _, cap, fun W => hix W, hcell _ _ c0, hcell _ _ c1, hb, ⟨vs, _, cap, h1, h2, h4, h5, hv⟩, rfl, fun i hi W => ?_⟩
  have := Rd.ixN (P := Try.prog) (OwnW.rd hr) Try.underlying43 one_u64 hi W
  simpa [cellAt] using this
theorem obC_setFs : ∀ {L : List Ob} {vs : List Value} {n : Nat} {o : Ob} {f : List UInt64}, L[n]? = some o → obC (L.set n ⟨o.ty, f⟩) vs = obC L vs
  | [], _, _, _, _, h => by simp at h
  | o :: L, [], 0, o', f, h => rfl
  | o :: L, x :: vs, 0, o', f, h => by simp at h; subst h; rfl
  | o :: L, [], n + 1, o', f, h => rfl
  | o :: L, x :: vs, n + 1, o', f, h => by
    rw [List.set_cons_succ, obC, obC, obC_setFs (by simpa using h)]
/-- a word is stored into a field -/
theorem OwnM.storeF {w : World} {B n gf i : Nat} {tv ov sv : Value} {m : Mo} {o : Ob} {x0 : UInt64} (h : OwnM w B 48 tv ov sv m) (hf : OwnF w B ov m.objs n gf) (ho : m.objs[n]? = some o) (hx : o.fs[i]? = some x0) (x : UInt64) :
    OwnM (w.setCell ⟨gf, i, none⟩ (.int .u64 x.toNat)) B 48 tv ov sv (putF m n i x) ∧ OwnF (w.setCell ⟨gf, i, none⟩ (.int .u64 x.toNat)) B ov (putF m n i x).objs n gf ∧ w.grownBy (w.setCell ⟨gf, i, none⟩ (.int .u64 x.toNat)) (some gf) := by
  obtain ⟨vs, nf, cf, h1, h2, h4, h5, h6⟩ := hf
  have hob : ob m n = o := by simp [ob, List.getD_eq_getElem?_getD, ho]
  have hr := h4 n _ _ h6 ho
  have hi : i < o.fs.length := (List.getElem?_eq_some_iff.1 hx).1
  have hn : nf = o.fs.length := by
    obtain ⟨g', cap, cur, hv, _⟩ := own_form hr (by omega)
    injection hv
  subst hn
  have hst := World.ownsRow.stored hr i (u64 x)
  have hg := hst.2
  have ho2 : (w.setCell ⟨gf, i, none⟩ (u64 x)).ownsRow B 45 2 ov m.objs.length (obC m.objs vs) := World.ownsRow.kept h2 hg (own_unlike h2 hr (by decide))
  have hF : OwnF (w.setCell ⟨gf, i, none⟩ (u64 x)) B ov (putF m n i x).objs n gf := by
    refine ⟨vs, _, cf, by simp [L20.putF, h1], ?_, fun j y l hy hl => ?_, h5, h6⟩
    · show World.ownsRow _ B _ 2 ov (m.objs.set n ⟨(ob m n).ty, (ob m n).fs.set i x⟩).length (obC (m.objs.set n ⟨(ob m n).ty, (ob m n).fs.set i x⟩) vs)
      rw [hob, obC_setFs ho, List.length_set]; exact ho2
    · by_cases hj : j = n
      · subst hj
        have e1 : (putF m j i x).objs[j]? = some ⟨(ob m j).ty, (ob m j).fs.set i x⟩ := by
          show (m.objs.set j _)[j]? = _
          rw [List.getElem?_set_self (List.getElem?_eq_some_iff.1 ho).1]
        rw [e1] at hl; injection hl with hl; subst hl
        rw [h6] at hy; injection hy with hy; subst hy
        refine OwnW.of hst.1 ?_
        rw [hob]; simp only [List.map_set]
      · have e1 : (putF m n i x).objs[j]? = m.objs[j]? := by
          show (m.objs.set n _)[j]? = _
          rw [List.getElem?_set_ne (Ne.symm hj)]
        rw [e1] at hl
        exact World.ownsRow.kept (h4 j y l hy hl) hg (h5 j n y _ hj hy h6)
  exact ⟨⟨OwnT.kept h.t hr hg (by decide) (by decide), hF.own, World.ownsRow.kept h.s hg (own_unlike h.s hr (by decide))⟩, hF, hg⟩
set_option maxRecDepth 100000 in
set_option maxHeartbeats 4000000 in
theorem field_no (tv ov sv : Value) (m : Mo) (sl g n : Int) (r : Int) (hr : r = kErrF m sl g n) (h0 : r ≠ 0) (w : World) (h : Mod w tv ov sv m) :
    Calls Try.prog 34 #[.agg #[tv, ov, sv], .agg #[.int .i64 sl, .int .i64 g], .int .i64 n] w fun e w' => e = .returned (.tuple #[.agg #[.slice none 0 0, .slice none 0 0, .slice none 0 0], .pointer none, .int .u8 0, .int .i64 r]) ∧ Below w.heap.size w w' := by
  have B : Below w.heap.size w w := Below.refl _ _
  have H := Lib.hid h
  by_cases ha : asked m sl g = 0
  · have hn : ¬ (0 ≤ n ∧ n < (kinds m sl).length) := fun hh => h0 (by rw [hr, kErrF_ok ha hh])
    have hr2 : r = 2 := by rw [hr, kErrF_arg ha hn]
    have hask := asked_ok ha
    obtain ⟨c0, hr0, k, s, n', o, t, hk, hk16, hs, hu, hg, hso, hat, hown, ho, hob, hoo, ht, htt, hkinds, hfl⟩ := hask
    have OT := Lib.hid (fun w h => open20_ok tv ov sv m sl g n' ha hown w h)
    subst hr2
    rw [hkinds] at hn
    have HO := Lib.hid ho; have HFL := Lib.hid hfl
    clear ha hr h0 c0 hr0 hs hu hg hso hat hown ho hob hoo ht htt hkinds h hk hfl
    go_enter Try.func34, Try.ntmps34
    go_upto_region 1 with (fail)
    refine wp_gen (fun Wv => Bx Wv (w.heap.size) (26) (#[tv, ov, sv]) ∧ Bx Wv (w.heap.size + 1) (50) (#[.int .i64 sl, .int .i64 g]) ∧ Bx Wv (w.heap.size + 1 + 1) (26) (#[.slice none 0 0, .slice none 0 0, .slice none 0 0]) ∧ Below w.heap.size w Wv) ⟨((((Bx.at_ (by simp)).alloc _).alloc _)), (((Bx.at_ (by simp)).alloc _)), ((Bx.at_ (by simp))), ((((Below.refl _ w).alloc (by simp <;> omega) _).alloc (by simp <;> omega) _).alloc (by simp <;> omega) _)⟩ ?_
    rintro wa1 ⟨g1, g2, g3, b⟩
    replace B := B.trans (b.mono B.size); clear b
    have c_g1 := g1.cell; have f_g1 := g1.free; have a_g1 := fun o => (g1.alloc o).cell; have d_g1 := fun o o2 => ((g1.alloc o).alloc o2).cell; have e_g1 := fun o => (g1.alloc o).free
    have c_g2 := g2.cell; have f_g2 := g2.free; have a_g2 := fun o => (g2.alloc o).cell; have d_g2 := fun o o2 => ((g2.alloc o).alloc o2).cell; have e_g2 := fun o => (g2.alloc o).free
    have c_g3 := g3.cell; have f_g3 := g3.free; have a_g3 := fun o => (g3.alloc o).cell; have d_g3 := fun o o2 => ((g3.alloc o).alloc o2).cell; have e_g3 := fun o => (g3.alloc o).free
    go_wp2_with fail
    refine (OT.out _ (H.out.below B)).mono ?_
    rintro e wa2 ⟨t', o', s', rfl, om, b⟩
    try clear c_g1 f_g1 a_g1 d_g1 e_g1
    replace g1 := g1.below b; have c_g1 := g1.cell; have f_g1 := g1.free; have a_g1 := fun o => (g1.alloc o).cell; have d_g1 := fun o o2 => ((g1.alloc o).alloc o2).cell; have e_g1 := fun o => (g1.alloc o).free; try clear c_g2 f_g2 a_g2 d_g2 e_g2
    replace g2 := g2.below b; have c_g2 := g2.cell; have f_g2 := g2.free; have a_g2 := fun o => (g2.alloc o).cell; have d_g2 := fun o o2 => ((g2.alloc o).alloc o2).cell; have e_g2 := fun o => (g2.alloc o).free; try clear c_g3 f_g3 a_g3 d_g3 e_g3
    replace g3 := g3.below b; have c_g3 := g3.cell; have f_g3 := g3.free; have a_g3 := fun o => (g3.alloc o).cell; have d_g3 := fun o o2 => ((g3.alloc o).alloc o2).cell; have e_g3 := fun o => (g3.alloc o).free; replace B := B.trans (b.mono B.size); clear b
    obtain ⟨⟨tA, tn, tc, rfl⟩, ⟨oA, on, oc, rfl⟩, ⟨sA, sn, sc, rfl⟩⟩ := om.forms
    go_upto_region 2 with (fail)
    refine wp_gen (fun Wv => Bx Wv (wa2.heap.size) (26) (#[.slice tA tn tc, .slice oA on oc, .slice sA sn sc]) ∧ Below wa2.heap.size wa2 Wv) ⟨((Bx.at_ (by simp))), ((Below.refl _ wa2).alloc (by simp <;> omega) _)⟩ ?_
    rintro wa3 ⟨g4, b⟩
    try clear c_g1 f_g1 a_g1 d_g1 e_g1
    replace g1 := g1.below b; have c_g1 := g1.cell; have f_g1 := g1.free; have a_g1 := fun o => (g1.alloc o).cell; have d_g1 := fun o o2 => ((g1.alloc o).alloc o2).cell; have e_g1 := fun o => (g1.alloc o).free; try clear c_g2 f_g2 a_g2 d_g2 e_g2
    replace g2 := g2.below b; have c_g2 := g2.cell; have f_g2 := g2.free; have a_g2 := fun o => (g2.alloc o).cell; have d_g2 := fun o o2 => ((g2.alloc o).alloc o2).cell; have e_g2 := fun o => (g2.alloc o).free; try clear c_g3 f_g3 a_g3 d_g3 e_g3
    replace g3 := g3.below b; have c_g3 := g3.cell; have f_g3 := g3.free; have a_g3 := fun o => (g3.alloc o).cell; have d_g3 := fun o o2 => ((g3.alloc o).alloc o2).cell; have e_g3 := fun o => (g3.alloc o).free; replace om := om.below b; replace B := B.trans (b.mono B.size); clear b
    have c_g4 := g4.cell; have f_g4 := g4.free; have a_g4 := fun o => (g4.alloc o).cell; have d_g4 := fun o o2 => ((g4.alloc o).alloc o2).cell; have e_g4 := fun o => (g4.alloc o).free
    have HOM := Lib.hid om
    obtain ⟨ob_, oq, x, o2, ix, m0, m1, ho2, hx, hob2⟩ := om.rd.o.at_ (k := n') (List.getElem?_eq_some_iff.1 HO.out).1
    obtain rfl : o2 = o := by have := ho2.out; rw [HO.out] at this; injection this with e; exact e.symm
    have lx := Rd.len hx.out Try.underlying43
    obtain ⟨xA, xn, xc, rfl⟩ : ∃ A n c, x = .slice A n c := by obtain ⟨A, c, e, _⟩ := hx.out; exact ⟨A, _, c, e⟩
    obtain ⟨nf, hnf⟩ : ∃ N, N = o2.fs.length := ⟨_, rfl⟩
    rw [← hnf] at lx
    have hcase : n < 0 ∨ ¬ n < 0 ∧ (nf : Int) ≤ n := by have := HFL.out; omega
    clear om hx ho2 hn hnf
    go_upto_region 5 with (fail)
    refine wp_gen (fun Wv => Bx Wv (wa3.heap.size) (45) (#[.int .i64 o2.ty, .slice xA xn xc]) ∧ Below wa3.heap.size wa3 Wv) ⟨((Bx.at_ (by simp))), ((Below.refl _ wa3).alloc (by simp <;> omega) _)⟩ ?_
    rintro wa4 ⟨g5, b⟩
    try clear c_g1 f_g1 a_g1 d_g1 e_g1
    replace g1 := g1.below b; have c_g1 := g1.cell; have f_g1 := g1.free; have a_g1 := fun o => (g1.alloc o).cell; have d_g1 := fun o o2 => ((g1.alloc o).alloc o2).cell; have e_g1 := fun o => (g1.alloc o).free; try clear c_g2 f_g2 a_g2 d_g2 e_g2
    replace g2 := g2.below b; have c_g2 := g2.cell; have f_g2 := g2.free; have a_g2 := fun o => (g2.alloc o).cell; have d_g2 := fun o o2 => ((g2.alloc o).alloc o2).cell; have e_g2 := fun o => (g2.alloc o).free; try clear c_g3 f_g3 a_g3 d_g3 e_g3
    replace g3 := g3.below b; have c_g3 := g3.cell; have f_g3 := g3.free; have a_g3 := fun o => (g3.alloc o).cell; have d_g3 := fun o o2 => ((g3.alloc o).alloc o2).cell; have e_g3 := fun o => (g3.alloc o).free; try clear c_g4 f_g4 a_g4 d_g4 e_g4
    replace g4 := g4.below b; have c_g4 := g4.cell; have f_g4 := g4.free; have a_g4 := fun o => (g4.alloc o).cell; have d_g4 := fun o o2 => ((g4.alloc o).alloc o2).cell; have e_g4 := fun o => (g4.alloc o).free; replace B := B.trans (b.mono B.size); clear b
    have c_g5 := g5.cell; have f_g5 := g5.free; have a_g5 := fun o => (g5.alloc o).cell; have d_g5 := fun o o2 => ((g5.alloc o).alloc o2).cell; have e_g5 := fun o => (g5.alloc o).free
    clear m0 m1
    rcases hcase with h1 | ⟨h1, h2⟩
    all_goals
      go_wp2
      refine bodyPost_ret (v := .tuple #[.agg #[.slice none 0 0, .slice none 0 0, .slice none 0 0], .pointer none, .int .u8 0, .int .i64 2]) (by simp [results, Try.results34, go_sem, c_g3, f_g3]) rfl ⟨rfl, ?_⟩
      (repeat (first | refine Below.setCell ?_ (by first | exact Nat.le_refl _ | (simp <;> omega)) _ | refine Below.alloc ?_ (by first | exact B.size | (have := B.size; simp <;> omega)) _)); exact B
  · have hr1 : r = asked m sl g := by rw [hr, kErrF_no ha]
    have OT := Lib.hid (fun w h => open20_no tv ov sv m sl g r hr1 h0 w h)
    have hne : (r != 0) = true := by rw [bne_iff_ne]; exact h0
    clear hr hr1 ha h0 h
    go_enter Try.func34, Try.ntmps34
    go_upto_region 1 with (fail)
    refine wp_gen (fun Wv => Bx Wv (w.heap.size) (26) (#[tv, ov, sv]) ∧ Bx Wv (w.heap.size + 1) (50) (#[.int .i64 sl, .int .i64 g]) ∧ Bx Wv (w.heap.size + 1 + 1) (26) (#[.slice none 0 0, .slice none 0 0, .slice none 0 0]) ∧ Below w.heap.size w Wv) ⟨((((Bx.at_ (by simp)).alloc _).alloc _)), (((Bx.at_ (by simp)).alloc _)), ((Bx.at_ (by simp))), ((((Below.refl _ w).alloc (by simp <;> omega) _).alloc (by simp <;> omega) _).alloc (by simp <;> omega) _)⟩ ?_
    rintro wa1 ⟨g1, g2, g3, b⟩
    replace B := B.trans (b.mono B.size); clear b
    have c_g1 := g1.cell; have f_g1 := g1.free; have a_g1 := fun o => (g1.alloc o).cell; have d_g1 := fun o o2 => ((g1.alloc o).alloc o2).cell; have e_g1 := fun o => (g1.alloc o).free
    have c_g2 := g2.cell; have f_g2 := g2.free; have a_g2 := fun o => (g2.alloc o).cell; have d_g2 := fun o o2 => ((g2.alloc o).alloc o2).cell; have e_g2 := fun o => (g2.alloc o).free
    have c_g3 := g3.cell; have f_g3 := g3.free; have a_g3 := fun o => (g3.alloc o).cell; have d_g3 := fun o o2 => ((g3.alloc o).alloc o2).cell; have e_g3 := fun o => (g3.alloc o).free
    go_wp2_with fail
    refine (OT.out _ (H.out.below B)).mono ?_
    rintro e wa2 ⟨rfl, b⟩
    try clear c_g1 f_g1 a_g1 d_g1 e_g1
    replace g1 := g1.below b; have c_g1 := g1.cell; have f_g1 := g1.free; have a_g1 := fun o => (g1.alloc o).cell; have d_g1 := fun o o2 => ((g1.alloc o).alloc o2).cell; have e_g1 := fun o => (g1.alloc o).free; try clear c_g2 f_g2 a_g2 d_g2 e_g2
    replace g2 := g2.below b; have c_g2 := g2.cell; have f_g2 := g2.free; have a_g2 := fun o => (g2.alloc o).cell; have d_g2 := fun o o2 => ((g2.alloc o).alloc o2).cell; have e_g2 := fun o => (g2.alloc o).free; try clear c_g3 f_g3 a_g3 d_g3 e_g3
    replace g3 := g3.below b; have c_g3 := g3.cell; have f_g3 := g3.free; have a_g3 := fun o => (g3.alloc o).cell; have d_g3 := fun o o2 => ((g3.alloc o).alloc o2).cell; have e_g3 := fun o => (g3.alloc o).free; replace B := B.trans (b.mono B.size); clear b
    go_upto_region 2 with (fail)
    refine wp_gen (fun Wv => Bx Wv (wa2.heap.size) (26) (#[.slice none 0 0, .slice none 0 0, .slice none 0 0]) ∧ Below wa2.heap.size wa2 Wv) ⟨((Bx.at_ (by simp))), ((Below.refl _ wa2).alloc (by simp <;> omega) _)⟩ ?_
    rintro wa3 ⟨g4, b⟩
    try clear c_g1 f_g1 a_g1 d_g1 e_g1
    replace g1 := g1.below b; have c_g1 := g1.cell; have f_g1 := g1.free; have a_g1 := fun o => (g1.alloc o).cell; have d_g1 := fun o o2 => ((g1.alloc o).alloc o2).cell; have e_g1 := fun o => (g1.alloc o).free; try clear c_g2 f_g2 a_g2 d_g2 e_g2
    replace g2 := g2.below b; have c_g2 := g2.cell; have f_g2 := g2.free; have a_g2 := fun o => (g2.alloc o).cell; have d_g2 := fun o o2 => ((g2.alloc o).alloc o2).cell; have e_g2 := fun o => (g2.alloc o).free; try clear c_g3 f_g3 a_g3 d_g3 e_g3
    replace g3 := g3.below b; have c_g3 := g3.cell; have f_g3 := g3.free; have a_g3 := fun o => (g3.alloc o).cell; have d_g3 := fun o o2 => ((g3.alloc o).alloc o2).cell; have e_g3 := fun o => (g3.alloc o).free; replace B := B.trans (b.mono B.size); clear b
    have c_g4 := g4.cell; have f_g4 := g4.free; have a_g4 := fun o => (g4.alloc o).cell; have d_g4 := fun o o2 => ((g4.alloc o).alloc o2).cell; have e_g4 := fun o => (g4.alloc o).free
    go_wp2
    refine bodyPost_ret (v := .tuple #[.agg #[.slice none 0 0, .slice none 0 0, .slice none 0 0], .pointer none, .int .u8 0, .int .i64 r]) (by simp [results, Try.results34, go_sem, c_g3, f_g3]) rfl ⟨rfl, ?_⟩
    (repeat (first | refine Below.setCell ?_ (by first | exact Nat.le_refl _ | (simp <;> omega)) _ | refine Below.alloc ?_ (by first | exact B.size | (have := B.size; simp <;> omega)) _)); exact B
end Go.Proofs.Yteejianjjpdimaa
namespace Go.Proofs.Yteejianjjpdimaa
open Go.RowKit L02 L13 L18 L20
def wsF (w : World) (p : Nat) (a b c : Value) : Nat → World
  | 0 => w.drew
  | _ => ((w.drew.setCell ⟨p, 0, none⟩ a).setCell ⟨p, 1, none⟩ b).setCell ⟨p, 2, none⟩ c
/-- a byte of an own table -/
theorem OwnT.at2 {w : World} {base : Nat} {v : Value} {L : List (List UInt8)} (h : OwnT w base v L) {k i : Nat} {l : List UInt8} {b : UInt8} (hl : L[k]? = some l) (hb : l[i]? = some b) :
    ∃ ad bd y, (∀ W, (Instr.indexAt 22 v (.int .i64 (k : Int))).run Try.prog W = .ok (.pointer (some ad)) W) ∧ w.cell? ad = some y ∧ (∀ W, (Instr.indexAt 41 y (.int .i64 (i : Int))).run Try.prog W = .ok (.pointer (some bd)) W) ∧ w.cell? bd = some (.int .u8 b.toNat) ∧ base ≤ ad.block ∧ base ≤ bd.block := by
  obtain ⟨vs, h1, h2, h4⟩ := h
  have hk : k < L.length := (List.getElem?_eq_some_iff.1 hl).1
  have hi : i < l.length := (List.getElem?_eq_some_iff.1 hb).1
  have hv : vs[k]? = some vs[k] := List.getElem?_eq_getElem (by omega)
  have hr := h4 k _ _ hv hl
  obtain ⟨g, c, cur, e, hg, _⟩ := own_form h2 (by omega)
  obtain ⟨g', c', cur', e', hg', _⟩ := own_form hr (by omega)
  refine ⟨cellAt v (k * 1), cellAt vs[k] (i * 1), vs[k], fun W => Rd.ixN (Rd.of_own h2) Try.underlying22 one_bytes hk W, by rw [Nat.mul_one]; exact Rd.cell (Rd.of_own h2) hv, fun W => Rd.ixN (OwnB.rd hr) Try.underlying41 one_u8 hi W, ?_, ?_, ?_⟩
  · rw [Nat.mul_one]; exact Rd.cell (OwnB.rd hr) (by rw [List.getElem?_map, hb]; rfl)
  · rw [e]; exact hg
  · rw [e']; exact hg'
set_option maxRecDepth 100000 in
set_option maxHeartbeats 4000000 in
theorem field_ok (tv ov sv : Value) (m : Mo) (sl g : Int) (i : Nat) (kd : UInt8) (o : Ob) (n' : Nat) (h0 : kErrF m sl g i = 0) (hkd : kd = kind m sl g i) (hown : own m sl = n') (ho : m.objs[n']? = some o) (w : World) (h : Mod w tv ov sv m) :
    Calls Try.prog 34 #[.agg #[tv, ov, sv], .agg #[.int .i64 sl, .int .i64 g], .int .i64 i] w fun e w' => ∃ t' o' s' gf, e = .returned (.tuple #[.agg #[t', o', s'], .pointer (some ⟨gf, i, none⟩), .int .u8 kd.toNat, .int .i64 0]) ∧ OwnM w' w.heap.size 48 t' o' s' m ∧ OwnF w' w.heap.size o' m.objs n' gf ∧ Below w.heap.size w w' := by
  have B : Below w.heap.size w w := Below.refl _ _
  have H := Lib.hid h
  obtain ⟨ha, hn0, hnl⟩ := kErrF_inv h0
  obtain ⟨c0, hr0, k, s, n2, o2, t, hk, hk16, hs, hu, hg, hso, hat, hown2, ho2, hob, hoo, ht, htt, hkinds, hfl⟩ := asked_ok ha
  obtain rfl : n2 = n' := by rw [← hown2, hown]
  obtain rfl : o2 = o := by rw [ho2] at ho; injection ho
  have OT := Lib.hid (fun w h => open20_ok tv ov sv m sl g n2 ha hown w h)
  rw [hkinds] at hnl
  have hil : i < t.length := by omega
  have hkk : kd = t.getD i 0 := by rw [hkd, kind, if_pos h0, hkinds]; rfl
  have hki : t[i]? = some kd := by rw [hkk, List.getD_eq_getElem?_getD, List.getElem?_eq_getElem hil]; rfl
  have hty0 := hoo.1.1
  obtain ⟨q, hq⟩ := Int.eq_ofNat_of_zero_le hty0
  rw [hq, Int.toNat_natCast] at ht
  have HO := Lib.hid ho; have HFL := Lib.hid hfl; have HT := Lib.hid ht; have HKI := Lib.hid hki; have HQ := Lib.hid hq
  clear ha h0 hkd hkk c0 hr0 hs hu hg hso hat hown hown2 ho ho2 hob hoo ht htt hkinds h hk hfl hki hty0 hn0 hnl
  go_enter Try.func34, Try.ntmps34
  go_upto_region 1 with (fail)
  refine wp_gen (fun Wv => Bx Wv (w.heap.size) (26) (#[tv, ov, sv]) ∧ Bx Wv (w.heap.size + 1) (50) (#[.int .i64 sl, .int .i64 g]) ∧ Bx Wv (w.heap.size + 1 + 1) (26) (#[.slice none 0 0, .slice none 0 0, .slice none 0 0]) ∧ Below w.heap.size w Wv) ⟨((((Bx.at_ (by simp)).alloc _).alloc _)), (((Bx.at_ (by simp)).alloc _)), ((Bx.at_ (by simp))), ((((Below.refl _ w).alloc (by simp <;> omega) _).alloc (by simp <;> omega) _).alloc (by simp <;> omega) _)⟩ ?_
  rintro wa1 ⟨g1, g2, g3, b⟩
  replace B := B.trans (b.mono B.size); clear b
  have c_g1 := g1.cell; have f_g1 := g1.free; have a_g1 := fun o => (g1.alloc o).cell; have d_g1 := fun o o2 => ((g1.alloc o).alloc o2).cell; have e_g1 := fun o => (g1.alloc o).free
  have c_g2 := g2.cell; have f_g2 := g2.free; have a_g2 := fun o => (g2.alloc o).cell; have d_g2 := fun o o2 => ((g2.alloc o).alloc o2).cell; have e_g2 := fun o => (g2.alloc o).free
  have c_g3 := g3.cell; have f_g3 := g3.free; have a_g3 := fun o => (g3.alloc o).cell; have d_g3 := fun o o2 => ((g3.alloc o).alloc o2).cell; have e_g3 := fun o => (g3.alloc o).free
  have hz1 := B.size
  have hp1 := g3.lt
  go_wp2_with fail
  refine (OT.out _ (H.out.below B)).mono ?_
  rintro e wa2 ⟨t', o', s', rfl, om, b⟩
  try clear c_g1 f_g1 a_g1 d_g1 e_g1
  replace g1 := g1.below b; have c_g1 := g1.cell; have f_g1 := g1.free; have a_g1 := fun o => (g1.alloc o).cell; have d_g1 := fun o o2 => ((g1.alloc o).alloc o2).cell; have e_g1 := fun o => (g1.alloc o).free; try clear c_g2 f_g2 a_g2 d_g2 e_g2
  replace g2 := g2.below b; have c_g2 := g2.cell; have f_g2 := g2.free; have a_g2 := fun o => (g2.alloc o).cell; have d_g2 := fun o o2 => ((g2.alloc o).alloc o2).cell; have e_g2 := fun o => (g2.alloc o).free; try clear c_g3 f_g3 a_g3 d_g3 e_g3
  replace g3 := g3.below b; have c_g3 := g3.cell; have f_g3 := g3.free; have a_g3 := fun o => (g3.alloc o).cell; have d_g3 := fun o o2 => ((g3.alloc o).alloc o2).cell; have e_g3 := fun o => (g3.alloc o).free; replace B := B.trans (b.mono B.size); clear b
  have hp1b := g3.lt
  obtain ⟨⟨tA, tn, tc, rfl⟩, ⟨oA, on, oc, rfl⟩, ⟨sA, sn, sc, rfl⟩⟩ := om.forms
  go_upto_region 2 with (fail)
  refine wp_gen (fun Wv => Bx Wv (wa2.heap.size) (26) (#[.slice tA tn tc, .slice oA on oc, .slice sA sn sc]) ∧ Below wa2.heap.size wa2 Wv) ⟨((Bx.at_ (by simp))), ((Below.refl _ wa2).alloc (by simp <;> omega) _)⟩ ?_
  rintro wa3 ⟨g4, b⟩
  try clear c_g1 f_g1 a_g1 d_g1 e_g1
  replace g1 := g1.below b; have c_g1 := g1.cell; have f_g1 := g1.free; have a_g1 := fun o => (g1.alloc o).cell; have d_g1 := fun o o2 => ((g1.alloc o).alloc o2).cell; have e_g1 := fun o => (g1.alloc o).free; try clear c_g2 f_g2 a_g2 d_g2 e_g2
  replace g2 := g2.below b; have c_g2 := g2.cell; have f_g2 := g2.free; have a_g2 := fun o => (g2.alloc o).cell; have d_g2 := fun o o2 => ((g2.alloc o).alloc o2).cell; have e_g2 := fun o => (g2.alloc o).free; try clear c_g3 f_g3 a_g3 d_g3 e_g3
  replace g3 := g3.below b; have c_g3 := g3.cell; have f_g3 := g3.free; have a_g3 := fun o => (g3.alloc o).cell; have d_g3 := fun o o2 => ((g3.alloc o).alloc o2).cell; have e_g3 := fun o => (g3.alloc o).free; replace om := om.below b; replace B := B.trans (b.mono B.size); clear b
  have c_g4 := g4.cell; have f_g4 := g4.free; have a_g4 := fun o => (g4.alloc o).cell; have d_g4 := fun o o2 => ((g4.alloc o).alloc o2).cell; have e_g4 := fun o => (g4.alloc o).free
  have hp1c := g3.lt
  obtain ⟨ob_, oq, gf, nf, cf, ix, m0, m1, hob2, of_, hnf, hix⟩ := om.o.at_ HO.out (by have := HFL.out; omega)
  have hixi := hix i (by have := HFL.out; omega)
  obtain ⟨ad, bd, y, it, m2, ib, m3, hab, hbb⟩ := OwnT.at2 om.t HT.out HKI.out
  have lx : ∀ ty W, (Builtin.len_ #[43] ty #[.slice (some ⟨gf, 0, none⟩) nf cf]).run Try.prog W = .ok (.int .i64 (nf : Int)) W := by
    intro ty W; simp [Builtin.len_, run_underlying Try.underlying43]; rfl
  have hcase : ¬ (i : Int) < 0 ∧ ¬ nf ≤ i ∧ ¬ (nf : Int) ≤ (i : Int) := by have := HFL.out; omega
  obtain ⟨n1, n3, n4⟩ := hcase
  clear hix hnf
  go_upto_region 5 with (fail)
  rw [HQ.out] at m0
  refine wp_gen (fun Wv => Bx Wv (wa3.heap.size) (45) (#[.int .i64 (q : Int), .slice (some ⟨gf, 0, none⟩) nf cf]) ∧ Below wa3.heap.size wa3 Wv) ⟨((Bx.at_ (by simp))), ((Below.refl _ wa3).alloc (by simp <;> omega) _)⟩ ?_
  rintro wa4 ⟨g5, b⟩
  try clear c_g1 f_g1 a_g1 d_g1 e_g1
  replace g1 := g1.below b; have c_g1 := g1.cell; have f_g1 := g1.free; have a_g1 := fun o => (g1.alloc o).cell; have d_g1 := fun o o2 => ((g1.alloc o).alloc o2).cell; have e_g1 := fun o => (g1.alloc o).free; try clear c_g2 f_g2 a_g2 d_g2 e_g2
  replace g2 := g2.below b; have c_g2 := g2.cell; have f_g2 := g2.free; have a_g2 := fun o => (g2.alloc o).cell; have d_g2 := fun o o2 => ((g2.alloc o).alloc o2).cell; have e_g2 := fun o => (g2.alloc o).free; try clear c_g3 f_g3 a_g3 d_g3 e_g3
  replace g3 := g3.below b; have c_g3 := g3.cell; have f_g3 := g3.free; have a_g3 := fun o => (g3.alloc o).cell; have d_g3 := fun o o2 => ((g3.alloc o).alloc o2).cell; have e_g3 := fun o => (g3.alloc o).free; try clear c_g4 f_g4 a_g4 d_g4 e_g4
  replace g4 := g4.below b; have c_g4 := g4.cell; have f_g4 := g4.free; have a_g4 := fun o => (g4.alloc o).cell; have d_g4 := fun o o2 => ((g4.alloc o).alloc o2).cell; have e_g4 := fun o => (g4.alloc o).free; replace om := om.below b; replace of_ := of_.below b; replace m2 := cell_later b m2; replace m3 := cell_later b m3; replace B := B.trans (b.mono B.size); clear b
  have c_g5 := g5.cell; have f_g5 := g5.free; have a_g5 := fun o => (g5.alloc o).cell; have d_g5 := fun o o2 => ((g5.alloc o).alloc o2).cell; have e_g5 := fun o => (g5.alloc o).free
  clear m0 m1
  go_upto_region 7 with (fail)
  have HG := Lib.hid (And.intro g3 (And.intro om (And.intro of_ B)))
  have hp3 := g4.lt; have hp4 := g5.lt
  have hne4 : wa2.heap.size ≠ w.heap.size + 1 + 1 := by omega
  have hne5 : wa3.heap.size ≠ w.heap.size + 1 + 1 := by omega
  have AL : ∀ d, d ≤ 1 → Bx ((wsF wa4 (w.heap.size + 1 + 1) (.slice tA tn tc) (.slice oA on oc) (.slice sA sn sc)) d) wa2.heap.size 26 #[.slice tA tn tc, .slice oA on oc, .slice sA sn sc] ∧ Bx ((wsF wa4 (w.heap.size + 1 + 1) (.slice tA tn tc) (.slice oA on oc) (.slice sA sn sc)) d) wa3.heap.size 45 #[.int .i64 (q : Int), .slice (some ⟨gf, 0, none⟩) nf cf] ∧ ((wsF wa4 (w.heap.size + 1 + 1) (.slice tA tn tc) (.slice oA on oc) (.slice sA sn sc)) d).cell? ad = some y ∧ ((wsF wa4 (w.heap.size + 1 + 1) (.slice tA tn tc) (.slice oA on oc) (.slice sA sn sc)) d).cell? bd = some (.int .u8 kd.toNat) := by
    intro d hd
    rcases d with _ | d
    · exact ⟨g4, g5, m2, m3⟩
    · refine ⟨?_, ?_, ?_, ?_⟩
      · exact ((g4.far (p := ⟨w.heap.size + 1 + 1, 0, none⟩) hne4 _).far (p := ⟨w.heap.size + 1 + 1, 1, none⟩) hne4 _).far (p := ⟨w.heap.size + 1 + 1, 2, none⟩) hne4 _
      · exact ((g5.far (p := ⟨w.heap.size + 1 + 1, 0, none⟩) hne5 _).far (p := ⟨w.heap.size + 1 + 1, 1, none⟩) hne5 _).far (p := ⟨w.heap.size + 1 + 1, 2, none⟩) hne5 _
      · exact cell_far (cell_far (cell_far m2 (by show _ ≠ w.heap.size + 1 + 1; omega)) (by show _ ≠ w.heap.size + 1 + 1; omega)) (by show _ ≠ w.heap.size + 1 + 1; omega)
      · exact cell_far (cell_far (cell_far m3 (by show _ ≠ w.heap.size + 1 + 1; omega)) (by show _ ≠ w.heap.size + 1 + 1; omega)) (by show _ ≠ w.heap.size + 1 + 1; omega)
  have AA := Lib.hid (fun x : FXN (FL [14] (wsF wa4 (w.heap.size + 1 + 1) (.slice tA tn tc) (.slice oA on oc) (.slice sA sn sc)) 14 1) => FL.all (ks := [14]) (Ws := (wsF wa4 (w.heap.size + 1 + 1) (.slice tA tn tc) (.slice oA on oc) (.slice sA sn sc))) (p := fun W => Bx W wa2.heap.size 26 #[.slice tA tn tc, .slice oA on oc, .slice sA sn sc] ∧ Bx W wa3.heap.size 45 #[.int .i64 (q : Int), .slice (some ⟨gf, 0, none⟩) nf cf] ∧ W.cell? ad = some y ∧ W.cell? bd = some (.int .u8 kd.toNat)) AL x)
  have ca := fun x : FXN (FL [14] (wsF wa4 (w.heap.size + 1 + 1) (.slice tA tn tc) (.slice oA on oc) (.slice sA sn sc)) 14 1) => (AA.out x).1.cell
  have cb := fun x : FXN (FL [14] (wsF wa4 (w.heap.size + 1 + 1) (.slice tA tn tc) (.slice oA on oc) (.slice sA sn sc)) 14 1) => (AA.out x).2.1.cell
  have cc := fun x : FXN (FL [14] (wsF wa4 (w.heap.size + 1 + 1) (.slice tA tn tc) (.slice oA on oc) (.slice sA sn sc)) 14 1) => (AA.out x).2.2.1
  have cd := fun x : FXN (FL [14] (wsF wa4 (w.heap.size + 1 + 1) (.slice tA tn tc) (.slice oA on oc) (.slice sA sn sc)) 14 1) => (AA.out x).2.2.2
  haveI : Nonempty (FXN (FL [14] (wsF wa4 (w.heap.size + 1 + 1) (.slice tA tn tc) (.slice oA on oc) (.slice sA sn sc)) 14 1)) := ⟨⟨_, _, FL.start⟩⟩
  clear m2 m3 c_g1 c_g2 f_g1 f_g2 a_g1 a_g2 d_g1 d_g2 e_g1 e_g2 c_g4 f_g4 a_g4 d_g4 e_g4 c_g5 f_g5 a_g5 d_g5 e_g5 a_g3 d_g3 e_g3
  refine wp_region_N (FL [14] (wsF wa4 (w.heap.size + 1 + 1) (.slice tA tn tc) (.slice oA on oc) (.slice sA sn sc)) 14 1) [14, 14] FL.dep (by kernel_rfl) (by kernel_rfl) (by kernel_rfl) FL.start ?_
  iterate 14 (refine wpN_read FL.dep rfl (by decide) ?_; go_big_quiet_step (fail); refine wpQuiet_nil ?_)
  refine wpN_storeD FL.dep rfl 26 (.tmp 6) (.tmp 40) rfl (by rfl) (p := .pointer (some ⟨w.heap.size + 1 + 1, 0, none⟩)) (u := .agg #[.slice tA tn tc, .slice oA on oc, .slice sA sn sc]) (by rfl) (by rfl) [] (by kernel_rfl) (fun f W hF h0 h1 => ?_) ?_
  · obtain ⟨rfl, h2⟩ := FL.step (i := 0) rfl (by decide) hF h0 (by intro p hp; omega) (by omega)
    refine ⟨_, ?_, h2⟩
    simp [go_sem, wsF, c_g3, f_g3]
  simp only [Act.put, List.setIfInBounds_toArray, List.set_cons_zero, List.set_cons_succ]
  iterate 3 (refine wpN_read FL.dep rfl (by decide) ?_; go_big_quiet_step (fail); refine wpQuiet_nil ?_)
  show ∀ w', _ → _
  intro w' hw'
  obtain rfl := FL.done hw'
  have g3d : Bx wa4.drew (w.heap.size + 1 + 1) 26 #[.slice none 0 0, .slice none 0 0, .slice none 0 0] := g3
  have omd : OwnM wa4.drew wa1.heap.size 48 (.slice tA tn tc) (.slice oA on oc) (.slice sA sn sc) m := ⟨om.t, om.o, om.s⟩
  have ofd : OwnF wa4.drew wa1.heap.size (.slice oA on oc) m.objs n2 gf := of_
  have Bd := B.drew
  have HM := Lib.hid (OwnM.set3 (a := .slice tA tn tc) (b := .slice oA on oc) (c := .slice sA sn sc) (OwnM.mono omd hz1) g3d)
  have HF := Lib.hid ((((OwnF.mono ofd hz1).set (i := 0) (u := .slice tA tn tc) g3d (by decide) (by decide)).set (i := 1) (u := .slice oA on oc) (g3d.set (i := 0) (.slice tA tn tc)) (by decide) (by decide)).set (i := 2) (u := .slice sA sn sc) ((g3d.set (i := 0) (.slice tA tn tc)).set (i := 1) (.slice oA on oc)) (by decide) (by decide))
  have BB := Lib.hid (((Bd.setCell (p := ⟨w.heap.size + 1 + 1, 0, none⟩) (by simp; omega) (.slice tA tn tc)).setCell (p := ⟨w.heap.size + 1 + 1, 1, none⟩) (by simp; omega) (.slice oA on oc)).setCell (p := ⟨w.heap.size + 1 + 1, 2, none⟩) (by simp; omega) (.slice sA sn sc))
  have g3' := ((g3d.set (i := 0) (.slice tA tn tc)).set (i := 1) (.slice oA on oc)).set (i := 2) (.slice sA sn sc)
  have c3' := g3'.cell
  clear omd ofd Bd g3d this ca cb cc cd AL AA om of_ g1 g2 g3 g4 g5 B hw' HG c_g3 f_g3
  show _
  generalize hW : (((wa4.drew.setCell ⟨w.heap.size + 1 + 1, 0, none⟩ (.slice tA tn tc)).setCell ⟨w.heap.size + 1 + 1, 1, none⟩ (.slice oA on oc)).setCell ⟨w.heap.size + 1 + 1, 2, none⟩ (.slice sA sn sc)) = W4 at c3' HM HF BB
  have hw4 : (wsF wa4 (w.heap.size + 1 + 1) (.slice tA tn tc) (.slice oA on oc) (.slice sA sn sc)) [14].length = W4 := hW
  rw [hw4]
  clear hW hw4 g3'
  go_wp2
  refine bodyPost_ret (v := .tuple #[.agg #[.slice tA tn tc, .slice oA on oc, .slice sA sn sc], .pointer (some ⟨gf, i, none⟩), .int .u8 kd.toNat, .int .i64 0]) (by simp [results, Try.results34, go_sem, c3']) rfl ?_
  exact ⟨_, _, _, _, rfl, HM.out, HF.out, BB.out⟩
end Go.Proofs.Yteejianjjpdimaa
