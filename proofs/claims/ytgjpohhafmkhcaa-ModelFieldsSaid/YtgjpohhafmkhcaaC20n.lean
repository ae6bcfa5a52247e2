/- Contracts of models: a new handle. -/
import Derived.Test.YtgjpohhafmkhcaaC20m
import Derived.Test.YtgjpohhafmkhcaaL18b
set_option linter.unusedVariables false
set_option linter.unusedSimpArgs false
namespace Go.Proofs.Ytgjpohhafmkhcaa
open Go.RowKit L02 L13 L18 L20

theorem tabL_set (S : List Sl) (k : Nat) (s : Sl) (hk : k < S.length) : (((tabL S).set (k * 3) (.int .i64 s.gen)).set (k * 3 + 1) (.bool s.used)).set (k * 3 + 2) (.int .i64 s.at_) = tabL (S.set k s) := by
  apply List.ext_getElem?
  intro i
  by_cases hi : i < S.length * 3
  · obtain ⟨q, r, hr, rfl⟩ : ∃ q r, r < 3 ∧ i = q * 3 + r := ⟨i / 3, i % 3, Nat.mod_lt _ (by omega), by omega⟩
    have hq : q < S.length := by omega
    by_cases hqk : q = k
    · subst hqk
      have h1 := tabL_get (S.set q s) q s (by simp [hq]) r hr
      rw [h1]
      have hl : (tabL S).length = S.length * 3 := tabL_len S
      have : r = 0 ∨ r = 1 ∨ r = 2 := by omega
      rcases this with rfl | rfl | rfl
      · rw [List.getElem?_set_ne (by omega), List.getElem?_set_ne (by omega), Nat.add_zero, List.getElem?_set_self (by omega)]; rfl
      · rw [List.getElem?_set_ne (by omega), List.getElem?_set_self (by simp; omega)]; rfl
      · rw [List.getElem?_set_self (by simp; omega)]; rfl
    · have hs : S[q]? = some S[q] := List.getElem?_eq_getElem hq
      have h1 := tabL_get (S.set k s) q S[q] (by rw [List.getElem?_set_ne (Ne.symm hqk)]; exact hs) r hr
      have h2 := tabL_get S q S[q] hs r hr
      rw [h1, List.getElem?_set_ne (by omega), List.getElem?_set_ne (by omega), List.getElem?_set_ne (by omega), h2]
  · rw [List.getElem?_eq_none (by simp [tabL_len]; omega), List.getElem?_eq_none (by simp [tabL_len]; omega)]
/-- one slot is stored -/
theorem OwnS.put3 {w : World} {B E g n c k : Nat} {S : List Sl} (h : OwnS w B E (.slice (some ⟨g, 0, none⟩) n c) S) (hk : k < S.length) (s : Sl) :
    OwnS (((w.setCell ⟨g, k * 3, none⟩ (.int .i64 s.gen)).setCell ⟨g, k * 3 + 1, none⟩ (.bool s.used)).setCell ⟨g, k * 3 + 2, none⟩ (.int .i64 s.at_)) B E (.slice (some ⟨g, 0, none⟩) n c) (S.set k s) ∧
      w.grownBy (((w.setCell ⟨g, k * 3, none⟩ (.int .i64 s.gen)).setCell ⟨g, k * 3 + 1, none⟩ (.bool s.used)).setCell ⟨g, k * 3 + 2, none⟩ (.int .i64 s.at_)) (some g) ∧ B ≤ g ∧ g < w.heap.size ∧ ∀ j, w.frozen? ⟨g, j, none⟩ = false := by
  have hn : n = S.length := by
    obtain ⟨g', cap, cur, hv, _⟩ := own_form h (by omega)
    injection hv
  subst hn
  have h1 := World.ownsRow.stored h (k * 3) (.int .i64 s.gen)
  have h2 := World.ownsRow.stored h1.1 (k * 3 + 1) (.bool s.used)
  have h3 := World.ownsRow.stored h2.1 (k * 3 + 2) (.int .i64 s.at_)
  have hl := h.lt g rfl
  refine ⟨?_, ⟨rfl, rfl, rfl, ?_, fun q hq hne => ?_⟩, hl.1, hl.2, fun j => h.frozenAt j⟩
  · unfold OwnS
    rw [← tabL_set S k s hk, List.length_set]
    exact h3.1
  · simp [World.setCell]
  · exact (h3.2.block q (by simpa [World.setCell] using hq) hne).trans ((h2.2.block q (by simpa [World.setCell] using hq) hne).trans (h1.2.block q hq hne))
theorem OwnS.form {w : World} {B E : Nat} {v : Value} {S : List Sl} (h : OwnS w B E v S) (hn : 0 < S.length) : ∃ g n c, v = .slice (some ⟨g, 0, none⟩) n c ∧ n = S.length := by
  obtain ⟨g, cap, cur, hv, _⟩ := own_form h hn
  exact ⟨g, _, cap, hv, rfl⟩
theorem OwnS.cells {w : World} {B E g n c k : Nat} {S : List Sl} {s : Sl} (h : OwnS w B E (.slice (some ⟨g, 0, none⟩) n c) S) (hs : S[k]? = some s) :
    (∀ W, (Instr.indexAt 24 (.slice (some ⟨g, 0, none⟩) n c) (.int .i64 (k : Int))).run Try.prog W = .ok (.pointer (some ⟨g, k * 3, none⟩)) W) ∧ w.cell? ⟨g, k * 3, none⟩ = some (.int .i64 s.gen) ∧ w.cell? ⟨g, k * 3 + 1, none⟩ = some (.bool s.used) ∧ w.cell? ⟨g, k * 3 + 2, none⟩ = some (.int .i64 s.at_) := by
  have hk : k < S.length := (List.getElem?_eq_some_iff.1 hs).1
  have t0 := Rd.cell (OwnS.rd h) (tabL_get S k s hs 0 (by omega))
  have t1 := Rd.cell (OwnS.rd h) (tabL_get S k s hs 1 (by omega))
  have t2 := Rd.cell (OwnS.rd h) (tabL_get S k s hs 2 (by omega))
  refine ⟨fun W => ?_, ?_, ?_, ?_⟩
  · have := Rd.ixN (P := Try.prog) (OwnS.rd h) Try.underlying24 size_slot hk W
    simpa [cellAt] using this
  · simpa [cellAt] using t0
  · simpa [cellAt] using t1
  · simpa [cellAt] using t2
/-- a model's own slots changed, all else kept -/
theorem OwnM.slots {w W : World} {B g n c : Nat} {tv ov : Value} {m : Mo} {S : List Sl} (h : OwnM w B 67 tv ov (.slice (some ⟨g, 0, none⟩) n c) m) (hg : w.grownBy W (some g)) (hS : OwnS W B 67 (.slice (some ⟨g, 0, none⟩) n c) S) :
    OwnM W B 67 tv ov (.slice (some ⟨g, 0, none⟩) n c) ⟨m.types, m.objs, S⟩ := by
  refine ⟨OwnT.kept h.t h.s hg (by decide) (by decide), ?_, hS⟩
  obtain ⟨vs, a1, a2, a4, a5⟩ := h.o
  exact ⟨vs, a1, World.ownsRow.kept a2 hg (own_unlike a2 h.s (by decide)), fun i x l h5 h6 => World.ownsRow.kept (a4 i x l h5 h6) hg (own_unlike (a4 i x l h5 h6) h.s (by decide)), a5⟩
/-- all old blocks but one are as they were -/
def Keep (w w' : World) (row : Option Nat) : Prop := w.heap.size ≤ w'.heap.size ∧ ∀ k, k < w.heap.size → some k ≠ row → w'.heap[k]? = w.heap[k]?
theorem Keep.of_below {w w' : World} {row : Option Nat} (h : Below w.heap.size w w') : Keep w w' row := ⟨h.size, fun k hk _ => h.block k hk⟩
theorem Keep.grown {w w' w'' : World} {row : Option Nat} (h : Keep w w' row) (hg : w'.grownBy w'' row) : Keep w w'' row := ⟨Nat.le_trans h.1 hg.size, fun k hk hr => (hg.block k (Nat.lt_of_lt_of_le hk h.1) hr).trans (h.2 k hk hr)⟩
theorem Keep.setCell {w w' : World} {row : Option Nat} (h : Keep w w' row) {p : Addr} (hp : w.heap.size ≤ p.block) (u : Value) : Keep w (w'.setCell p u) row :=
  ⟨by simpa [World.setCell] using h.1, fun k hk hr => (Below.heap_setCell w' p u k (by omega)).trans (h.2 k hk hr)⟩
theorem Keep.trans_below {w w' w'' : World} {row : Option Nat} (h : Keep w w' row) (hb : Below w'.heap.size w' w'') : Keep w w'' row := ⟨Nat.le_trans h.1 hb.size, fun k hk hr => (hb.block k (Nat.lt_of_lt_of_le hk h.1)).trans (h.2 k hk hr)⟩
theorem Bx.keep {w w' : World} {g : Nat} {t : TypeId} {cs : Array Value} {row : Option Nat} (h : Bx w g t cs) (hk : Keep w w' row) (hne : row = none ∨ row ≠ some g) : Bx w' g t cs := by
  have hl := h.lt
  unfold Bx at *
  rw [hk.2 g hl (by rcases hne with rfl | h; · simp
                    · exact fun e => h e.symm)]
  exact h
theorem OwnM.setH {w : World} {B p i : Nat} {tv ov sv u : Value} {m : Mo} {cs : Array Value} (h : OwnM w B 67 tv ov sv m) (hg : Bx w p 28 cs) : OwnM (w.setCell ⟨p, i, none⟩ u) B 67 tv ov sv m :=
  ⟨h.t.set hg (by decide) (by decide), h.o.set hg (by decide) (by decide), own_set h.s hg (by decide)⟩

set_option maxRecDepth 100000 in
set_option maxHeartbeats 4000000 in
theorem handle_ok (tv ov sv : Value) (m : Mo) (n : Int) (kk : Nat) (s : Sl) (hnx : next m.slots = some kk) (hs : m.slots[kk]? = some s) (hgen : ∀ s ∈ m.slots, 0 ≤ s.gen ∧ s.gen ≤ 2147483647) (hlen : m.slots.length = 16) (B0 : Nat) (w : World) (h : OwnM w B0 67 tv ov sv m) (hB : B0 ≤ w.heap.size) :
    Calls Try.prog 44 #[.agg #[tv, ov, sv], .int .i64 n] w fun e w' => e = .returned (.tuple #[.agg #[.int .i64 kk, .int .i64 (s.gen + 1)], .bool true]) ∧ OwnM w' B0 67 tv ov sv ⟨m.types, m.objs, m.slots.set kk ⟨s.gen + 1, true, n⟩⟩ ∧ Below B0 w w' ∧ Keep w w' sv.ownBlock := by
  have B : Below w.heap.size w w := Below.refl _ _
  obtain ⟨gS, sc, rfl⟩ : ∃ g c, sv = .slice (some ⟨g, 0, none⟩) 16 c := by obtain ⟨g, n, c, e, e2⟩ := h.s.form (by omega); rw [e2, hlen] at e; exact ⟨g, c, e⟩
  have ls := h.rd.s.len
  rw [hlen] at ls
  obtain ⟨_, ⟨s', hs', hu, hg1⟩, hbefore⟩ := nextFrom_some hnx
  rw [Nat.sub_zero] at hs' hbefore
  obtain rfl : s' = s := by rw [hs] at hs'; injection hs' with e; exact e.symm
  have hkk : kk < 16 := by have := (List.getElem?_eq_some_iff.1 hs).1; omega
  have hg2 := hgen s' (List.mem_of_getElem? hs)
  have H := Lib.hid h; have HS := Lib.hid hs; have HBF := Lib.hid hbefore; have HL := Lib.hid hlen; have HGEN := Lib.hid hgen
  have hmx : s'.gen < 2147483647 := by omega
  obtain ⟨gn, us, sa⟩ := s'
  dsimp only at hu hmx hg2 ⊢
  subst hu
  have hwr : IntKind.i64.wrap (gn + 1) = gn + 1 := IntWalk.i64_in _ (by omega)
  clear hs hs' hbefore hnx hgen hg1
  go_enter Try.func44, Try.ntmps44
  go_upto_region 1 with (fail)
  refine wp_gen (fun Wv => Bx Wv (w.heap.size) (26) (#[tv, ov, .slice (some ⟨gS, 0, none⟩) 16 sc]) ∧ Bx Wv (w.heap.size + 1) (28) (#[.int .i64 0, .int .i64 0]) ∧ Below w.heap.size w Wv) ⟨(((Bx.at_ (by simp)).alloc _)), ((Bx.at_ (by simp))), (((Below.refl _ w).alloc (by simp <;> omega) _).alloc (by simp <;> omega) _)⟩ ?_
  rintro wa1 ⟨g1, g2, b⟩
  replace B := B.trans (b.mono B.size); clear b
  have c_g1 := g1.cell; have f_g1 := g1.free; have a_g1 := fun o => (g1.alloc o).cell; have d_g1 := fun o o2 => ((g1.alloc o).alloc o2).cell; have e_g1 := fun o => (g1.alloc o).free
  have c_g2 := g2.cell; have f_g2 := g2.free; have a_g2 := fun o => (g2.alloc o).cell; have d_g2 := fun o o2 => ((g2.alloc o).alloc o2).cell; have e_g2 := fun o => (g2.alloc o).free
  have HG := Lib.hid (And.intro g1 (And.intro g2 B))
  clear g1 g2 B c_g1 c_g2 f_g1 f_g2 a_g1 a_g2 d_g1 d_g2 e_g1 e_g2
  have hwa := HG.out.1.cell
  go_wp2
  clear hwa
  go_loopg [11] kk (fun g i wr => ∃ j : Nat, j ≤ kk ∧ g = kk - j ∧ i = .int .i64 j ∧ Hid (Bx wr w.heap.size 26 #[tv, ov, .slice (some ⟨gS, 0, none⟩) 16 sc] ∧ Bx wr (w.heap.size + 1) 28 #[.int .i64 0, .int .i64 0] ∧ Below w.heap.size w wr))
  case atStart => exact ⟨0, by omega, by omega, rfl, HG⟩
  case round =>
    clear HG
    obtain ⟨j, hj, rfl, rfl, hh⟩ := hrel
    obtain ⟨g1, g2, B⟩ := hh.out
    have hj16 : j < 16 := by omega
    have hx : m.slots[j]? = some (m.slots[j]'(by have := HL.out; omega)) := List.getElem?_eq_getElem _
    obtain ⟨x, hxx⟩ : ∃ x, x = m.slots[j]'(by have := HL.out; omega) := ⟨_, rfl⟩
    rw [← hxx] at hx; clear hxx
    obtain ⟨ix, m0, m1, m2⟩ := OwnS.cells (H.out.s.below B) hx
    have HX := Lib.hid hx; clear hx hh
    obtain ⟨xg, xu, xa⟩ := x
    dsimp only at m0 m1 m2
    have hzr := B.size
    go_upto_region 4 with (fail)
    refine wp_gen (fun Wv => Bx Wv (wr.heap.size) (67) (#[.int .i64 xg, .bool xu, .int .i64 xa]) ∧ Below wr.heap.size wr Wv) ⟨((Bx.at_ (by simp))), ((Below.refl _ wr).alloc (by simp <;> omega) _)⟩ ?_
    rintro wa1 ⟨g3, b⟩
    try clear c_g1 f_g1 a_g1 d_g1 e_g1
    replace g1 := g1.below b; have c_g1 := g1.cell; have f_g1 := g1.free; have a_g1 := fun o => (g1.alloc o).cell; have d_g1 := fun o o2 => ((g1.alloc o).alloc o2).cell; have e_g1 := fun o => (g1.alloc o).free; try clear c_g2 f_g2 a_g2 d_g2 e_g2
    replace g2 := g2.below b; have c_g2 := g2.cell; have f_g2 := g2.free; have a_g2 := fun o => (g2.alloc o).cell; have d_g2 := fun o o2 => ((g2.alloc o).alloc o2).cell; have e_g2 := fun o => (g2.alloc o).free; replace B := B.trans (b.mono B.size); clear b
    have c_g3 := g3.cell; have f_g3 := g3.free; have a_g3 := fun o => (g3.alloc o).cell; have d_g3 := fun o o2 => ((g3.alloc o).alloc o2).cell; have e_g3 := fun o => (g3.alloc o).free
    clear m0 m1 m2
    by_cases hjk : j = kk
    · subst hjk
      have e1 : (⟨xg, xu, xa⟩ : Sl) = ⟨gn, false, sa⟩ := by have := HX.out; rw [HS.out] at this; injection this with e; exact e.symm
      injection e1 with e1 e2 e3
      subst e1; subst e2; subst e3
      have HP := Lib.hid (OwnS.put3 (k := j) (H.out.s.below B) (by have := HL.out; omega) ⟨xg + 1, true, n⟩)
      obtain ⟨_, p0, p1, p2⟩ := OwnS.cells (H.out.s.below B) HX.out
      have fz := HP.out.2.2.2.2
      have HO := Lib.hid (H.out.below B)
      have hne1 : gS ≠ w.heap.size := by
        rcases own_not_bx HO.out.s g1 (by decide) with h | h
        · simp [Value.ownBlock] at h
        · intro e; exact h (by simp [Value.ownBlock, e])
      have hne2 : gS ≠ w.heap.size + 1 := by
        rcases own_not_bx HO.out.s g2 (by decide) with h | h
        · simp [Value.ownBlock] at h
        · intro e; exact h (by simp [Value.ownBlock, e])
      have hne3 : gS ≠ wr.heap.size := by
        have h1 := (H.out.s.lt gS rfl).2; have h2 := hzr; omega
      have fz2 := g2.free
      go_wp2
      refine bodyPost_ret (v := .tuple #[.agg #[.int .i64 j, .int .i64 (xg + 1)], .bool true]) (by simp [results, Try.results44, go_sem, c_g2]) rfl ?_
      have b0 := H.out.below B
      have hM3 := OwnM.slots b0 HP.out.2.1 HP.out.1
      have r2 : Bx _ (w.heap.size + 1) 28 _ := g2.grown HP.out.2.1 (.inr (fun e => hne2 (by injection e)))
      have hb1 : Keep w _ (some gS) := (Keep.of_below B).grown HP.out.2.1
      have hB3 := (B.mono hB).grown HP.out.2.1 (Nat.le_trans hB B.size) (fun k hk => by injection hk with hk; rw [← hk]; exact HP.out.2.2.1)
      refine ⟨rfl, (hM3.setH r2).setH (r2.set _), ?_, ?_⟩
      · exact (hB3.setCell (p := ⟨w.heap.size + 1, 0, none⟩) (by simp; omega) _).setCell (p := ⟨w.heap.size + 1, 1, none⟩) (by simp; omega) _
      · exact (hb1.setCell (p := ⟨w.heap.size + 1, 0, none⟩) (by simp) _).setCell (p := ⟨w.heap.size + 1, 1, none⟩) (by simp) _
    · have hjk2 : j < kk := by omega
      have hnf := HBF.out j _ hjk2 HX.out
      have hgx := HGEN.out _ (List.mem_of_getElem? HX.out)
      dsimp only at hnf hgx
      have hj2 : (j : Int) < 16 := by omega
      have HH := Lib.hid (And.intro g1 (And.intro g2 B))
      cases xu
      · have hge : ¬ xg < 2147483647 := fun h => hnf ⟨rfl, by omega⟩
        clear hnf
        go_wp2
        clear g1 g2 g3 B c_g1 c_g2 f_g1 f_g2 a_g1 a_g2 d_g1 d_g2 e_g1 e_g2 c_g3 f_g3 a_g3 d_g3 e_g3
        go_roundg (kk - (j + 1))
        case measure => omega
        case rel => exact ⟨j + 1, by omega, rfl, by go_num, HH⟩
      · clear hnf
        go_wp2
        clear g1 g2 g3 B c_g1 c_g2 f_g1 f_g2 a_g1 a_g2 d_g1 d_g2 e_g1 e_g2 c_g3 f_g3 a_g3 d_g3 e_g3
        go_roundg (kk - (j + 1))
        case measure => omega
        case rel => exact ⟨j + 1, by omega, rfl, by go_num, HH⟩

set_option maxRecDepth 100000 in
set_option maxHeartbeats 4000000 in
theorem handle_no (tv ov sv : Value) (m : Mo) (n : Int) (hnx : next m.slots = none) (hgen : ∀ s ∈ m.slots, 0 ≤ s.gen ∧ s.gen ≤ 2147483647) (hlen : m.slots.length = 16) (w : World) (h : Mod w tv ov sv m) :
    Calls Try.prog 44 #[.agg #[tv, ov, sv], .int .i64 n] w fun e w' => e = .returned (.tuple #[.agg #[.int .i64 0, .int .i64 0], .bool false]) ∧ Below w.heap.size w w' := by
  have B : Below w.heap.size w w := Below.refl _ _
  have ls := h.s.len
  rw [hlen] at ls
  have hall : ∀ (j : Nat) (s : Sl), m.slots[j]? = some s → ¬ (s.used = false ∧ s.gen < 2147483647) := by
    have aux : ∀ (L : List Sl) (k : Nat), nextFrom L k = none → ∀ (j : Nat) (s : Sl), L[j]? = some s → ¬ (s.used = false ∧ s.gen ≠ 2147483647) := by
      intro L
      induction L with
      | nil => intro k _ j s hs; simp at hs
      | cons x L ih =>
        intro k hk j s hs
        rw [nextFrom] at hk
        split at hk
        · cases hk
        · rename_i hx
          cases j with
          | zero => simp at hs; subst hs; exact hx
          | succ j => exact ih _ hk j s (by simpa using hs)
    intro j s hs hh
    exact aux _ _ hnx j s hs ⟨hh.1, by have := hh.2; omega⟩
  have H := Lib.hid h; have HL := Lib.hid hlen; have HA := Lib.hid hall
  clear hnx hgen hlen h hall
  go_enter Try.func44, Try.ntmps44
  go_upto_region 1 with (fail)
  refine wp_gen (fun Wv => Bx Wv (w.heap.size) (26) (#[tv, ov, sv]) ∧ Bx Wv (w.heap.size + 1) (28) (#[.int .i64 0, .int .i64 0]) ∧ Below w.heap.size w Wv) ⟨(((Bx.at_ (by simp)).alloc _)), ((Bx.at_ (by simp))), (((Below.refl _ w).alloc (by simp <;> omega) _).alloc (by simp <;> omega) _)⟩ ?_
  rintro wa1 ⟨g1, g2, b⟩
  replace B := B.trans (b.mono B.size); clear b
  have c_g1 := g1.cell; have f_g1 := g1.free; have a_g1 := fun o => (g1.alloc o).cell; have d_g1 := fun o o2 => ((g1.alloc o).alloc o2).cell; have e_g1 := fun o => (g1.alloc o).free
  have c_g2 := g2.cell; have f_g2 := g2.free; have a_g2 := fun o => (g2.alloc o).cell; have d_g2 := fun o o2 => ((g2.alloc o).alloc o2).cell; have e_g2 := fun o => (g2.alloc o).free
  have HG := Lib.hid (And.intro g1 (And.intro g2 B))
  clear g1 g2 B c_g1 c_g2 f_g1 f_g2 a_g1 a_g2 d_g1 d_g2 e_g1 e_g2
  have hwa := HG.out.1.cell
  go_wp2
  clear hwa
  go_loopg [11] 16 (fun g i wr => ∃ j : Nat, j ≤ 16 ∧ g = 16 - j ∧ i = .int .i64 j ∧ Hid (Bx wr w.heap.size 26 #[tv, ov, sv] ∧ Bx wr (w.heap.size + 1) 28 #[.int .i64 0, .int .i64 0] ∧ Below w.heap.size w wr))
  case atStart => exact ⟨0, by omega, by omega, rfl, HG⟩
  case round =>
    clear HG
    obtain ⟨j, hj, rfl, rfl, hh⟩ := hrel
    obtain ⟨g1, g2, B⟩ := hh.out
    clear hh
    by_cases hlt : j < 16
    · obtain ⟨b, o, s, ix, m0, m1, m2, hs⟩ := (H.out.s.below B).at_ (P := Try.prog) Try.underlying24 size_slot (k := j) (by have := HL.out; omega)
      have hnf := HA.out j s hs.out
      clear hs
      obtain ⟨xg, xu, xa⟩ := s
      dsimp only at m0 m1 m2 hnf
      go_upto_region 4 with (fail)
      refine wp_gen (fun Wv => Bx Wv (wr.heap.size) (67) (#[.int .i64 xg, .bool xu, .int .i64 xa]) ∧ Below wr.heap.size wr Wv) ⟨((Bx.at_ (by simp))), ((Below.refl _ wr).alloc (by simp <;> omega) _)⟩ ?_
      rintro wa1 ⟨g3, b⟩
      try clear c_g1 f_g1 a_g1 d_g1 e_g1
      replace g1 := g1.below b; have c_g1 := g1.cell; have f_g1 := g1.free; have a_g1 := fun o => (g1.alloc o).cell; have d_g1 := fun o o2 => ((g1.alloc o).alloc o2).cell; have e_g1 := fun o => (g1.alloc o).free; try clear c_g2 f_g2 a_g2 d_g2 e_g2
      replace g2 := g2.below b; have c_g2 := g2.cell; have f_g2 := g2.free; have a_g2 := fun o => (g2.alloc o).cell; have d_g2 := fun o o2 => ((g2.alloc o).alloc o2).cell; have e_g2 := fun o => (g2.alloc o).free; replace B := B.trans (b.mono B.size); clear b
      have c_g3 := g3.cell; have f_g3 := g3.free; have a_g3 := fun o => (g3.alloc o).cell; have d_g3 := fun o o2 => ((g3.alloc o).alloc o2).cell; have e_g3 := fun o => (g3.alloc o).free
      clear m0 m1 m2
      have HH := Lib.hid (And.intro g1 (And.intro g2 B))
      cases xu
      · have hge : ¬ xg < 2147483647 := fun h => hnf ⟨rfl, h⟩
        clear hnf
        go_wp2
        clear g1 g2 g3 B c_g1 c_g2 f_g1 f_g2 a_g1 a_g2 d_g1 d_g2 e_g1 e_g2 c_g3 f_g3 a_g3 d_g3 e_g3
        go_roundg (16 - (j + 1))
        case measure => omega
        case rel => exact ⟨j + 1, by omega, rfl, by go_num, HH⟩
      · clear hnf
        go_wp2
        clear g1 g2 g3 B c_g1 c_g2 f_g1 f_g2 a_g1 a_g2 d_g1 d_g2 e_g1 e_g2 c_g3 f_g3 a_g3 d_g3 e_g3
        go_roundg (16 - (j + 1))
        case measure => omega
        case rel => exact ⟨j + 1, by omega, rfl, by go_num, HH⟩
    · obtain rfl : j = 16 := by omega
      have c_g2 := g2.cell; have f_g2 := g2.free
      go_wp2
      refine bodyPost_ret (v := .tuple #[.agg #[.int .i64 0, .int .i64 0], .bool false]) (by simp [results, Try.results44, go_sem, c_g2]) rfl ⟨rfl, ?_⟩
      exact (B.setCell (p := ⟨w.heap.size + 1, 0, none⟩) (by simp) _).setCell (p := ⟨w.heap.size + 1, 1, none⟩) (by simp) _
end Go.Proofs.Ytgjpohhafmkhcaa
