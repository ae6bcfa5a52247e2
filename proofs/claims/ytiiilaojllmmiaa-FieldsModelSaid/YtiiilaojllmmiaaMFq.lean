/- Contracts of the functions that the laws 'F' reach, part 17. No condition. -/
import Derived.Test.YtiiilaojllmmiaaMFp
set_option linter.unusedVariables false
set_option linter.unusedSimpArgs false
namespace Go.Proofs.Ytiiilaojllmmiaa
open Go.RowKit L02 L13 L18 L20
theorem tabL_set (S : List Sl) (k : Nat) (s : Sl) (hk : k < S.length) : (((tabL S).set (k * 3) (.int .i64 s.gen)).set (k * 3 + 1) (.bool s.used)).set (k * 3 + 2) (.int .i64 s.at_) = tabL (S.set k s) := by
  apply List.ext_getElem?
  intro i
  by_cases hi : i < S.length * 3
  · obtain ⟨q, r, hr, rfl⟩ : ∃ q r, r < 3 ∧ i = q * 3 + r := ⟨i / 3, i % 3, Nat.mod_lt _ (by omega), by omega⟩
    have hq : q < S.length := by omega
    by_cases hqk : q = k
    · subst hqk
      have h1 := tabL_get (S.set q s) q s (by simp [hq]) r hr
      rw [h1]
      have hl : (tabL S).length = S.length * 3 := tabL_len S
      have : r = 0 ∨ r = 1 ∨ r = 2 := by omega
      rcases this with rfl | rfl | rfl
      · rw [List.getElem?_set_ne (by omega), List.getElem?_set_ne (by omega), Nat.add_zero, List.getElem?_set_self (by omega)]; rfl
      · rw [List.getElem?_set_ne (by omega), List.getElem?_set_self (by simp; omega)]; rfl
      · rw [List.getElem?_set_self (by simp; omega)]; rfl
    · have hs : S[q]? = some S[q] := List.getElem?_eq_getElem hq
      have h1 := tabL_get (S.set k s) q S[q] (by rw [List.getElem?_set_ne (Ne.symm hqk)]; exact hs) r hr
      have h2 := tabL_get S q S[q] hs r hr
      rw [h1, List.getElem?_set_ne (by omega), List.getElem?_set_ne (by omega), List.getElem?_set_ne (by omega), h2]
  · rw [List.getElem?_eq_none (by simp [tabL_len]; omega), List.getElem?_eq_none (by simp [tabL_len]; omega)]
/-- one slot is stored -/
theorem OwnS.put3 {w : World} {B E g n c k : Nat} {S : List Sl} (h : OwnS w B E (.slice (some ⟨g, 0, none⟩) n c) S) (hk : k < S.length) (s : Sl) :
    OwnS (((w.setCell ⟨g, k * 3, none⟩ (.int .i64 s.gen)).setCell ⟨g, k * 3 + 1, none⟩ (.bool s.used)).setCell ⟨g, k * 3 + 2, none⟩ (.int .i64 s.at_)) B E (.slice (some ⟨g, 0, none⟩) n c) (S.set k s) ∧
      w.grownBy (((w.setCell ⟨g, k * 3, none⟩ (.int .i64 s.gen)).setCell ⟨g, k * 3 + 1, none⟩ (.bool s.used)).setCell ⟨g, k * 3 + 2, none⟩ (.int .i64 s.at_)) (some g) ∧ B ≤ g ∧ g < w.heap.size ∧ ∀ j, w.frozen? ⟨g, j, none⟩ = false := by
  have hn : n = S.length := by
    obtain ⟨g', cap, cur, hv, _⟩ := own_form h (by omega)
    injection hv
  subst hn
  have h1 := World.ownsRow.stored h (k * 3) (.int .i64 s.gen)
  have h2 := World.ownsRow.stored h1.1 (k * 3 + 1) (.bool s.used)
  have h3 := World.ownsRow.stored h2.1 (k * 3 + 2) (.int .i64 s.at_)
  have hl := h.lt g rfl
  refine ⟨?_, ⟨rfl, rfl, rfl, ?_, fun q hq hne => ?_⟩, hl.1, hl.2, fun j => h.frozenAt j⟩
  · unfold OwnS
    rw [← tabL_set S k s hk, List.length_set]
    exact h3.1
  · simp [World.setCell]
  · exact (h3.2.block q (by simpa [World.setCell] using hq) hne).trans ((h2.2.block q (by simpa [World.setCell] using hq) hne).trans (h1.2.block q hq hne))
theorem OwnS.form {w : World} {B E : Nat} {v : Value} {S : List Sl} (h : OwnS w B E v S) (hn : 0 < S.length) : ∃ g n c, v = .slice (some ⟨g, 0, none⟩) n c ∧ n = S.length := by
  obtain ⟨g, cap, cur, hv, _⟩ := own_form h hn
  exact ⟨g, _, cap, hv, rfl⟩
theorem OwnS.cells {w : World} {B E g n c k : Nat} {S : List Sl} {s : Sl} (h : OwnS w B E (.slice (some ⟨g, 0, none⟩) n c) S) (hs : S[k]? = some s) :
    (∀ W, (Instr.indexAt 50 (.slice (some ⟨g, 0, none⟩) n c) (.int .i64 (k : Int))).run Try.prog W = .ok (.pointer (some ⟨g, k * 3, none⟩)) W) ∧ w.cell? ⟨g, k * 3, none⟩ = some (.int .i64 s.gen) ∧ w.cell? ⟨g, k * 3 + 1, none⟩ = some (.bool s.used) ∧ w.cell? ⟨g, k * 3 + 2, none⟩ = some (.int .i64 s.at_) := by
  have hk : k < S.length := (List.getElem?_eq_some_iff.1 hs).1
  have t0 := Rd.cell (OwnS.rd h) (tabL_get S k s hs 0 (by omega))
  have t1 := Rd.cell (OwnS.rd h) (tabL_get S k s hs 1 (by omega))
  have t2 := Rd.cell (OwnS.rd h) (tabL_get S k s hs 2 (by omega))
  refine ⟨fun W => ?_, ?_, ?_, ?_⟩
  · have := Rd.ixN (P := Try.prog) (OwnS.rd h) Try.underlying50 size_slot hk W
    simpa [cellAt] using this
  · simpa [cellAt] using t0
  · simpa [cellAt] using t1
  · simpa [cellAt] using t2
/-- a model's own slots changed, all else kept -/
theorem OwnM.slots {w W : World} {B g n c : Nat} {tv ov : Value} {m : Mo} {S : List Sl} (h : OwnM w B 55 tv ov (.slice (some ⟨g, 0, none⟩) n c) m) (hg : w.grownBy W (some g)) (hS : OwnS W B 55 (.slice (some ⟨g, 0, none⟩) n c) S) :
    OwnM W B 55 tv ov (.slice (some ⟨g, 0, none⟩) n c) ⟨m.types, m.objs, S⟩ := by
  refine ⟨OwnT.kept h.t h.s hg (by decide) (by decide), ?_, hS⟩
  obtain ⟨vs, a1, a2, a4, a5⟩ := h.o
  exact ⟨vs, a1, World.ownsRow.kept a2 hg (own_unlike a2 h.s (by decide)), fun i x l h5 h6 => World.ownsRow.kept (a4 i x l h5 h6) hg (own_unlike (a4 i x l h5 h6) h.s (by decide)), a5⟩
/-- all old blocks but one are as they were -/
def Keep (w w' : World) (row : Option Nat) : Prop := w.heap.size ≤ w'.heap.size ∧ ∀ k, k < w.heap.size → some k ≠ row → w'.heap[k]? = w.heap[k]?
theorem Keep.of_below {w w' : World} {row : Option Nat} (h : Below w.heap.size w w') : Keep w w' row := ⟨h.size, fun k hk _ => h.block k hk⟩
theorem Keep.grown {w w' w'' : World} {row : Option Nat} (h : Keep w w' row) (hg : w'.grownBy w'' row) : Keep w w'' row := ⟨Nat.le_trans h.1 hg.size, fun k hk hr => (hg.block k (Nat.lt_of_lt_of_le hk h.1) hr).trans (h.2 k hk hr)⟩
theorem Keep.setCell {w w' : World} {row : Option Nat} (h : Keep w w' row) {p : Addr} (hp : w.heap.size ≤ p.block) (u : Value) : Keep w (w'.setCell p u) row :=
  ⟨by simpa [World.setCell] using h.1, fun k hk hr => (Below.heap_setCell w' p u k (by omega)).trans (h.2 k hk hr)⟩
theorem Bx.keep {w w' : World} {g : Nat} {t : TypeId} {cs : Array Value} {row : Option Nat} (h : Bx w g t cs) (hk : Keep w w' row) (hne : row = none ∨ row ≠ some g) : Bx w' g t cs := by
  have hl := h.lt
  unfold Bx at *
  rw [hk.2 g hl (by rcases hne with rfl | h; · simp
                    · exact fun e => h e.symm)]
  exact h
theorem OwnM.setH {w : World} {B p i : Nat} {tv ov sv u : Value} {m : Mo} {cs : Array Value} (h : OwnM w B 55 tv ov sv m) (hg : Bx w p 24 cs) : OwnM (w.setCell ⟨p, i, none⟩ u) B 55 tv ov sv m :=
  ⟨h.t.set hg (by decide) (by decide), h.o.set hg (by decide) (by decide), own_set h.s hg (by decide)⟩
set_option maxRecDepth 100000 in
set_option maxHeartbeats 4000000 in
theorem handle_ok (tv ov sv : Value) (m : Mo) (n : Int) (kk : Nat) (s : Sl) (hnx : next m.slots = some kk) (hs : m.slots[kk]? = some s) (hgen : ∀ s ∈ m.slots, 0 ≤ s.gen ∧ s.gen ≤ 2147483647) (hlen : m.slots.length = 16) (B0 : Nat) (w : World) (h : OwnM w B0 55 tv ov sv m) (hB : B0 ≤ w.heap.size) :
    Calls Try.prog 92 #[.agg #[tv, ov, sv], .int .i64 n] w fun e w' => e = .returned (.tuple #[.agg #[.int .i64 kk, .int .i64 (s.gen + 1)], .bool true]) ∧ OwnM w' B0 55 tv ov sv ⟨m.types, m.objs, m.slots.set kk ⟨s.gen + 1, true, n⟩⟩ ∧ Below B0 w w' ∧ Keep w w' sv.ownBlock := by
  have B : Below w.heap.size w w := Below.refl _ _
  obtain ⟨gS, sc, rfl⟩ : ∃ g c, sv = .slice (some ⟨g, 0, none⟩) 16 c := by obtain ⟨g, n, c, e, e2⟩ := h.s.form (by omega); rw [e2, hlen] at e; exact ⟨g, c, e⟩
  have ls := h.rd.s.len
  rw [hlen] at ls
  obtain ⟨_, ⟨s', hs', hu, hg1⟩, hbefore⟩ := nextFrom_some hnx
  rw [Nat.sub_zero] at hs' hbefore
  obtain rfl : s' = s := by rw [hs] at hs'; injection hs' with e; exact e.symm
  have hkk : kk < 16 := by have := (List.getElem?_eq_some_iff.1 hs).1; omega
  have hg2 := hgen s' (List.mem_of_getElem? hs)
  have H := Lib.hid h; have HS := Lib.hid hs; have HBF := Lib.hid hbefore; have HL := Lib.hid hlen; have HGEN := Lib.hid hgen
  have hmx : s'.gen < 2147483647 := by omega
  obtain ⟨gn, us, sa⟩ := s'
  dsimp only at hu hmx hg2 ⊢
  subst hu
  have hwr : IntKind.i64.wrap (gn + 1) = gn + 1 := IntWalk.i64_in _ (by omega)
  clear hs hs' hbefore hnx hgen hg1
  go_enter Try.func92, Try.ntmps92
  go_upto_region 1 with (fail)
  refine wp_gen (fun Wv => Bx Wv (w.heap.size) (87) (#[tv, ov, .slice (some ⟨gS, 0, none⟩) 16 sc]) ∧ Bx Wv (w.heap.size + 1) (24) (#[.int .i64 0, .int .i64 0]) ∧ Below w.heap.size w Wv) ⟨(((Bx.at_ (by simp)).alloc _)), ((Bx.at_ (by simp))), (((Below.refl _ w).alloc (by simp <;> omega) _).alloc (by simp <;> omega) _)⟩ ?_
  rintro wa1 ⟨g1, g2, b⟩
  replace B := B.trans (b.mono B.size); clear b
  have c_g1 := g1.cell; have f_g1 := g1.free; have a_g1 := fun o => (g1.alloc o).cell; have d_g1 := fun o o2 => ((g1.alloc o).alloc o2).cell; have e_g1 := fun o => (g1.alloc o).free
  have c_g2 := g2.cell; have f_g2 := g2.free; have a_g2 := fun o => (g2.alloc o).cell; have d_g2 := fun o o2 => ((g2.alloc o).alloc o2).cell; have e_g2 := fun o => (g2.alloc o).free
  have HG := Lib.hid (And.intro g1 (And.intro g2 B))
  clear g1 g2 B c_g1 c_g2 f_g1 f_g2 a_g1 a_g2 d_g1 d_g2 e_g1 e_g2
  have hwa := HG.out.1.cell
  go_wp2
  clear hwa
  go_loopg [11] kk (fun g i wr => ∃ j : Nat, j ≤ kk ∧ g = kk - j ∧ i = .int .i64 j ∧ Hid (Bx wr w.heap.size 87 #[tv, ov, .slice (some ⟨gS, 0, none⟩) 16 sc] ∧ Bx wr (w.heap.size + 1) 24 #[.int .i64 0, .int .i64 0] ∧ Below w.heap.size w wr))
  case atStart => exact ⟨0, by omega, by omega, rfl, HG⟩
  case round =>
    clear HG
    obtain ⟨j, hj, rfl, rfl, hh⟩ := hrel
    obtain ⟨g1, g2, B⟩ := hh.out
    have hj16 : j < 16 := by omega
    have hx : m.slots[j]? = some (m.slots[j]'(by have := HL.out; omega)) := List.getElem?_eq_getElem _
    obtain ⟨x, hxx⟩ : ∃ x, x = m.slots[j]'(by have := HL.out; omega) := ⟨_, rfl⟩
    rw [← hxx] at hx; clear hxx
    obtain ⟨ix, m0, m1, m2⟩ := OwnS.cells (H.out.s.below B) hx
    have HX := Lib.hid hx; clear hx hh
    obtain ⟨xg, xu, xa⟩ := x
    dsimp only at m0 m1 m2
    have hzr := B.size
    go_upto_region 4 with (fail)
    refine wp_gen (fun Wv => Bx Wv (wr.heap.size) (55) (#[.int .i64 xg, .bool xu, .int .i64 xa]) ∧ Below wr.heap.size wr Wv) ⟨((Bx.at_ (by simp))), ((Below.refl _ wr).alloc (by simp <;> omega) _)⟩ ?_
    rintro wa1 ⟨g3, b⟩
    try clear c_g1 f_g1 a_g1 d_g1 e_g1
    replace g1 := g1.below b; have c_g1 := g1.cell; have f_g1 := g1.free; have a_g1 := fun o => (g1.alloc o).cell; have d_g1 := fun o o2 => ((g1.alloc o).alloc o2).cell; have e_g1 := fun o => (g1.alloc o).free; try clear c_g2 f_g2 a_g2 d_g2 e_g2
    replace g2 := g2.below b; have c_g2 := g2.cell; have f_g2 := g2.free; have a_g2 := fun o => (g2.alloc o).cell; have d_g2 := fun o o2 => ((g2.alloc o).alloc o2).cell; have e_g2 := fun o => (g2.alloc o).free; replace B := B.trans (b.mono B.size); clear b
    have c_g3 := g3.cell; have f_g3 := g3.free; have a_g3 := fun o => (g3.alloc o).cell; have d_g3 := fun o o2 => ((g3.alloc o).alloc o2).cell; have e_g3 := fun o => (g3.alloc o).free
    clear m0 m1 m2
    by_cases hjk : j = kk
    · subst hjk
      have e1 : (⟨xg, xu, xa⟩ : Sl) = ⟨gn, false, sa⟩ := by have := HX.out; rw [HS.out] at this; injection this with e; exact e.symm
      injection e1 with e1 e2 e3
      subst e1; subst e2; subst e3
      have HP := Lib.hid (OwnS.put3 (k := j) (H.out.s.below B) (by have := HL.out; omega) ⟨xg + 1, true, n⟩)
      obtain ⟨_, p0, p1, p2⟩ := OwnS.cells (H.out.s.below B) HX.out
      have fz := HP.out.2.2.2.2
      have HO := Lib.hid (H.out.below B)
      have hne1 : gS ≠ w.heap.size := by
        rcases own_not_bx HO.out.s g1 (by decide) with h | h
        · simp [Value.ownBlock] at h
        · intro e; exact h (by simp [Value.ownBlock, e])
      have hne2 : gS ≠ w.heap.size + 1 := by
        rcases own_not_bx HO.out.s g2 (by decide) with h | h
        · simp [Value.ownBlock] at h
        · intro e; exact h (by simp [Value.ownBlock, e])
      have hne3 : gS ≠ wr.heap.size := by
        have h1 := (H.out.s.lt gS rfl).2; have h2 := hzr; omega
      have fz2 := g2.free
      go_wp2
      refine bodyPost_ret (v := .tuple #[.agg #[.int .i64 j, .int .i64 (xg + 1)], .bool true]) (by simp [results, Try.results92, go_sem, c_g2]) rfl ?_
      have b0 := H.out.below B
      have hM3 := OwnM.slots b0 HP.out.2.1 HP.out.1
      have r2 : Bx _ (w.heap.size + 1) 24 _ := g2.grown HP.out.2.1 (.inr (fun e => hne2 (by injection e)))
      have hb1 : Keep w _ (some gS) := (Keep.of_below B).grown HP.out.2.1
      have hB3 := (B.mono hB).grown HP.out.2.1 (Nat.le_trans hB B.size) (fun k hk => by injection hk with hk; rw [← hk]; exact HP.out.2.2.1)
      refine ⟨rfl, (hM3.setH r2).setH (r2.set _), ?_, ?_⟩
      · exact (hB3.setCell (p := ⟨w.heap.size + 1, 0, none⟩) (by simp; omega) _).setCell (p := ⟨w.heap.size + 1, 1, none⟩) (by simp; omega) _
      · exact (hb1.setCell (p := ⟨w.heap.size + 1, 0, none⟩) (by simp) _).setCell (p := ⟨w.heap.size + 1, 1, none⟩) (by simp) _
    · have hjk2 : j < kk := by omega
      have hnf := HBF.out j _ hjk2 HX.out
      have hgx := HGEN.out _ (List.mem_of_getElem? HX.out)
      dsimp only at hnf hgx
      have hj2 : (j : Int) < 16 := by omega
      have HH := Lib.hid (And.intro g1 (And.intro g2 B))
      cases xu
      · have hge : ¬ xg < 2147483647 := fun h => hnf ⟨rfl, by omega⟩
        clear hnf
        go_wp2
        clear g1 g2 g3 B c_g1 c_g2 f_g1 f_g2 a_g1 a_g2 d_g1 d_g2 e_g1 e_g2 c_g3 f_g3 a_g3 d_g3 e_g3
        go_roundg (kk - (j + 1))
        case measure => omega
        case rel => exact ⟨j + 1, by omega, rfl, by go_num, HH⟩
      · clear hnf
        go_wp2
        clear g1 g2 g3 B c_g1 c_g2 f_g1 f_g2 a_g1 a_g2 d_g1 d_g2 e_g1 e_g2 c_g3 f_g3 a_g3 d_g3 e_g3
        go_roundg (kk - (j + 1))
        case measure => omega
        case rel => exact ⟨j + 1, by omega, rfl, by go_num, HH⟩
set_option maxRecDepth 100000 in
set_option maxHeartbeats 4000000 in
theorem handle_no (tv ov sv : Value) (m : Mo) (n : Int) (hnx : next m.slots = none) (hgen : ∀ s ∈ m.slots, 0 ≤ s.gen ∧ s.gen ≤ 2147483647) (hlen : m.slots.length = 16) (w : World) (h : Mod w tv ov sv m) :
    Calls Try.prog 92 #[.agg #[tv, ov, sv], .int .i64 n] w fun e w' => e = .returned (.tuple #[.agg #[.int .i64 0, .int .i64 0], .bool false]) ∧ Below w.heap.size w w' := by
  have B : Below w.heap.size w w := Below.refl _ _
  have ls := h.s.len
  rw [hlen] at ls
  have hall : ∀ (j : Nat) (s : Sl), m.slots[j]? = some s → ¬ (s.used = false ∧ s.gen < 2147483647) := by
    have aux : ∀ (L : List Sl) (k : Nat), nextFrom L k = none → ∀ (j : Nat) (s : Sl), L[j]? = some s → ¬ (s.used = false ∧ s.gen ≠ 2147483647) := by
      intro L
      induction L with
      | nil => intro k _ j s hs; simp at hs
      | cons x L ih =>
        intro k hk j s hs
        rw [nextFrom] at hk
        split at hk
        · cases hk
        · rename_i hx
          cases j with
          | zero => simp at hs; subst hs; exact hx
          | succ j => exact ih _ hk j s (by simpa using hs)
    intro j s hs hh
    exact aux _ _ hnx j s hs ⟨hh.1, by have := hh.2; omega⟩
  have H := Lib.hid h; have HL := Lib.hid hlen; have HA := Lib.hid hall
  clear hnx hgen hlen h hall
  go_enter Try.func92, Try.ntmps92
  go_upto_region 1 with (fail)
  refine wp_gen (fun Wv => Bx Wv (w.heap.size) (87) (#[tv, ov, sv]) ∧ Bx Wv (w.heap.size + 1) (24) (#[.int .i64 0, .int .i64 0]) ∧ Below w.heap.size w Wv) ⟨(((Bx.at_ (by simp)).alloc _)), ((Bx.at_ (by simp))), (((Below.refl _ w).alloc (by simp <;> omega) _).alloc (by simp <;> omega) _)⟩ ?_
  rintro wa1 ⟨g1, g2, b⟩
  replace B := B.trans (b.mono B.size); clear b
  have c_g1 := g1.cell; have f_g1 := g1.free; have a_g1 := fun o => (g1.alloc o).cell; have d_g1 := fun o o2 => ((g1.alloc o).alloc o2).cell; have e_g1 := fun o => (g1.alloc o).free
  have c_g2 := g2.cell; have f_g2 := g2.free; have a_g2 := fun o => (g2.alloc o).cell; have d_g2 := fun o o2 => ((g2.alloc o).alloc o2).cell; have e_g2 := fun o => (g2.alloc o).free
  have HG := Lib.hid (And.intro g1 (And.intro g2 B))
  clear g1 g2 B c_g1 c_g2 f_g1 f_g2 a_g1 a_g2 d_g1 d_g2 e_g1 e_g2
  have hwa := HG.out.1.cell
  go_wp2
  clear hwa
  go_loopg [11] 16 (fun g i wr => ∃ j : Nat, j ≤ 16 ∧ g = 16 - j ∧ i = .int .i64 j ∧ Hid (Bx wr w.heap.size 87 #[tv, ov, sv] ∧ Bx wr (w.heap.size + 1) 24 #[.int .i64 0, .int .i64 0] ∧ Below w.heap.size w wr))
  case atStart => exact ⟨0, by omega, by omega, rfl, HG⟩
  case round =>
    clear HG
    obtain ⟨j, hj, rfl, rfl, hh⟩ := hrel
    obtain ⟨g1, g2, B⟩ := hh.out
    clear hh
    by_cases hlt : j < 16
    · obtain ⟨b, o, s, ix, m0, m1, m2, hs⟩ := (H.out.s.below B).at_ (P := Try.prog) Try.underlying50 size_slot (k := j) (by have := HL.out; omega)
      have hnf := HA.out j s hs.out
      clear hs
      obtain ⟨xg, xu, xa⟩ := s
      dsimp only at m0 m1 m2 hnf
      go_upto_region 4 with (fail)
      refine wp_gen (fun Wv => Bx Wv (wr.heap.size) (55) (#[.int .i64 xg, .bool xu, .int .i64 xa]) ∧ Below wr.heap.size wr Wv) ⟨((Bx.at_ (by simp))), ((Below.refl _ wr).alloc (by simp <;> omega) _)⟩ ?_
      rintro wa1 ⟨g3, b⟩
      try clear c_g1 f_g1 a_g1 d_g1 e_g1
      replace g1 := g1.below b; have c_g1 := g1.cell; have f_g1 := g1.free; have a_g1 := fun o => (g1.alloc o).cell; have d_g1 := fun o o2 => ((g1.alloc o).alloc o2).cell; have e_g1 := fun o => (g1.alloc o).free; try clear c_g2 f_g2 a_g2 d_g2 e_g2
      replace g2 := g2.below b; have c_g2 := g2.cell; have f_g2 := g2.free; have a_g2 := fun o => (g2.alloc o).cell; have d_g2 := fun o o2 => ((g2.alloc o).alloc o2).cell; have e_g2 := fun o => (g2.alloc o).free; replace B := B.trans (b.mono B.size); clear b
      have c_g3 := g3.cell; have f_g3 := g3.free; have a_g3 := fun o => (g3.alloc o).cell; have d_g3 := fun o o2 => ((g3.alloc o).alloc o2).cell; have e_g3 := fun o => (g3.alloc o).free
      clear m0 m1 m2
      have HH := Lib.hid (And.intro g1 (And.intro g2 B))
      cases xu
      · have hge : ¬ xg < 2147483647 := fun h => hnf ⟨rfl, h⟩
        clear hnf
        go_wp2
        clear g1 g2 g3 B c_g1 c_g2 f_g1 f_g2 a_g1 a_g2 d_g1 d_g2 e_g1 e_g2 c_g3 f_g3 a_g3 d_g3 e_g3
        go_roundg (16 - (j + 1))
        case measure => omega
        case rel => exact ⟨j + 1, by omega, rfl, by go_num, HH⟩
      · clear hnf
        go_wp2
        clear g1 g2 g3 B c_g1 c_g2 f_g1 f_g2 a_g1 a_g2 d_g1 d_g2 e_g1 e_g2 c_g3 f_g3 a_g3 d_g3 e_g3
        go_roundg (16 - (j + 1))
        case measure => omega
        case rel => exact ⟨j + 1, by omega, rfl, by go_num, HH⟩
    · obtain rfl : j = 16 := by omega
      have c_g2 := g2.cell; have f_g2 := g2.free
      go_wp2
      refine bodyPost_ret (v := .tuple #[.agg #[.int .i64 0, .int .i64 0], .bool false]) (by simp [results, Try.results92, go_sem, c_g2]) rfl ⟨rfl, ?_⟩
      exact (B.setCell (p := ⟨w.heap.size + 1, 0, none⟩) (by simp) _).setCell (p := ⟨w.heap.size + 1, 1, none⟩) (by simp) _
end Go.Proofs.Ytiiilaojllmmiaa
namespace Go.Proofs.Ytiiilaojllmmiaa
open Go.RowKit L02 L13 L18 L20
/-- the number of a slot is stored -/
theorem OwnS.put1 {w : World} {B E g n c k : Nat} {S : List Sl} {s : Sl} (h : OwnS w B E (.slice (some ⟨g, 0, none⟩) n c) S) (hs : S[k]? = some s) (a : Int) :
    OwnS (w.setCell ⟨g, k * 3 + 2, none⟩ (.int .i64 a)) B E (.slice (some ⟨g, 0, none⟩) n c) (S.set k ⟨s.gen, s.used, a⟩) ∧
      w.grownBy (w.setCell ⟨g, k * 3 + 2, none⟩ (.int .i64 a)) (some g) ∧ B ≤ g ∧ g < w.heap.size ∧ ∀ j, w.frozen? ⟨g, j, none⟩ = false := by
  have hk : k < S.length := (List.getElem?_eq_some_iff.1 hs).1
  have hn : n = S.length := by
    obtain ⟨g', cap, cur, hv, _⟩ := own_form h (by omega)
    injection hv
  subst hn
  have h3 := World.ownsRow.stored h (k * 3 + 2) (.int .i64 a)
  have hl := h.lt g rfl
  have hsame : ∀ i : Nat, i < 3 → ∀ u, (slC s)[i]? = some u → (tabL S).set (k * 3 + i) u = tabL S := by
    intro i hi u hu
    have t0 := tabL_get S k s hs i hi
    rw [hu] at t0
    apply List.ext_getElem?
    intro j
    by_cases hj : j = k * 3 + i
    · subst hj
      rw [List.getElem?_set_self (List.getElem?_eq_some_iff.1 t0).1, t0]
    · rw [List.getElem?_set_ne (Ne.symm hj)]
  have h0 := hsame 0 (by omega) (.int .i64 s.gen) rfl
  have h1 := hsame 1 (by omega) (.bool s.used) rfl
  rw [Nat.add_zero] at h0
  refine ⟨?_, h3.2, hl.1, hl.2, fun j => h.frozenAt j⟩
  unfold OwnS
  rw [← tabL_set S k ⟨s.gen, s.used, a⟩ hk, List.length_set]
  show World.ownsRow _ _ _ _ _ _ ((((tabL S).set (k * 3) (.int .i64 s.gen)).set (k * 3 + 1) (.bool s.used)).set (k * 3 + 2) (.int .i64 a))
  rw [h0, h1]
  exact h3.1
theorem own_ne_bx {w : World} {B e sz n n' p g c : Nat} {xs : List Value} {t : TypeId} {cs : Array Value} (h : w.ownsRow B e sz (.slice (some ⟨g, 0, none⟩) n c) n' xs) (hg : Bx w p t cs) (hne : e ≠ t) : g ≠ p := by
  rintro rfl
  rcases own_not_bx h hg hne with h | h
  · cases h
  · exact h rfl
end Go.Proofs.Ytiiilaojllmmiaa
namespace Go.Proofs.Ytiiilaojllmmiaa
open Go.RowKit L01 L02 L05 L06 L07 L13 L14 L15 L16 L18 L19
set_option maxRecDepth 100000 in
theorem SlotsR_any (v : Value) (l : List UInt64) (hs : SizeOk l.length) (L : List Sl) (hL : L = all l) (w : World) (h : Words w v l) :
    Calls Try.prog 35 #[v] w fun e w' => ∃ x, e = .returned x ∧ OwnS w' w.heap.size 55 x L ∧ Below w.heap.size w w' := by
  have T := Lib.hid (ToldR_any v l hs L _ hL rfl w h)
  clear hL h hs
  go_enter Try.func35, Try.ntmps35
  go_wp2_with fail
  refine T.out.mono ?_
  rintro e w2 ⟨x, rfl, o, b⟩
  have HO := Lib.hid (And.intro o b)
  clear o b
  go_wp2
  go_ret
  exact ⟨_, rfl, HO.out⟩
/-- the heap is one free extent -/
def whole (L : List Hb) : Bool := match L with | [b] => decide (b.kind = 2) | _ => false
end Go.Proofs.Ytiiilaojllmmiaa
namespace Go.Proofs.Ytiiilaojllmmiaa
open Go Go.RowKit
section
variable {P : Program} {ops : Array Oper} {w : World}
theorem wpStill_of_quiet {Q : Act → Prop} : ∀ (l : List Oper) (a : Act), wpQuiet P ops (fun W => W = w) Q l a → wpStill P ops w Q l a
  | [], a, h => h
  | o :: l, a, h => by
    unfold wpQuiet at h
    unfold wpStill
    by_cases hw : Region.wanted o (yielded ops a.tmps) = true
    · rw [if_pos hw] at h ⊢
      obtain ⟨v, h1, h2⟩ := h
      have h3 := h1 w rfl
      have h4 := wpStill_of_quiet l _ h2
      unfold Oper.quietAt at h3
      unfold Oper.still
      cases hr : (execOp a.eval o).run P w with
      | ok n w' =>
        rw [hr] at h3
        cases n with
        | value u => obtain ⟨e1, e2⟩ := h3; subst e2; exact ⟨e1, h4⟩
        | skip => obtain ⟨e1, e2⟩ := h3; subst e2; exact ⟨e1, h4⟩
        | enter f args => obtain ⟨e1, e2⟩ := h3; exact ⟨e1, v, e2, h4⟩
        | _ => exact absurd h3 id
      | halt x w' => rw [hr] at h3; exact absurd h3 id
    · rw [if_neg hw] at h ⊢
      exact wpStill_of_quiet l _ h
theorem wp_region_qtail {id : Nat} {Q : Exit → Act → World → Prop} {a : Act} {l : List Oper} (n : Nat) (hm : P.follows .mixedOrders = true) (hB : Region.lexTailB .any l.toArray n = true)
    (h : wpQuiet P l.toArray (fun W => W = w.drew) (fun a' => wpList P l.toArray Q (l.drop n) a' w.drew) (l.take n) a) : (Code.region id l.toArray true).wp P Q a w :=
  wp_region_still_tail n hm hB (wpStill_of_quiet _ _ h)
end
end Go.Proofs.Ytiiilaojllmmiaa
namespace Go.Proofs.Ytiiilaojllmmiaa
open Go.RowKit L01 L02 L05 L06 L07 L13 L14 L15 L18 L19 L20
theorem refV_idxI {O : List Hb} {v : UInt64} (h : O.length ≤ 960) : ((refV O v).toNat : Int) = idxI O v.toNat + 1 := by
  unfold refV idxI
  cases h2 : idx O v.toNat with
  | none => simp
  | some i =>
    obtain ⟨b, h3, _⟩ := idx_some h2
    have := (List.getElem?_eq_some_iff.1 h3).1
    show ((UInt64.ofNat (i + 1)).toNat : Int) = (i : Int) + 1
    rw [UInt64.toNat_ofNat', Nat.mod_eq_of_lt (by omega)]; omega
theorem slOf_used {O : List Hb} {s : Sl} (h : s.used = true) : slOf O s = ⟨s.gen, true, idxI O s.at_⟩ := by
  unfold slOf; rw [if_pos h]; rfl
theorem slOf_not {O : List Hb} {s : Sl} (h : s.used = false) : slOf O s = s := by unfold slOf; rw [h]; rfl
theorem form_T {w : World} {B : Nat} {v : Value} {L : List (List UInt8)} (h : OwnT w B v L) : ∃ A n c, v = .slice A n c := by
  obtain ⟨vs, _, h2, _⟩ := h
  obtain ⟨A, c, e⟩ := own_form' h2
  exact ⟨A, _, c, e⟩
end Go.Proofs.Ytiiilaojllmmiaa
namespace Go.Proofs.Ytiiilaojllmmiaa
open Go.RowKit L01 L02 L18
end Go.Proofs.Ytiiilaojllmmiaa
namespace Go.Proofs.Ytiiilaojllmmiaa
open Go.RowKit L01 L02 L05 L06 L07 L13 L14 L15 L18 L19 L20
theorem find_hd {l : List UInt64} {k a nn q : Nat} {sg : Int} {b : Hb} {t : List UInt8} (h : Hd l k a nn q sg b t) : find l a = b ∧ findErr l a = 0 := by
  obtain ⟨hbL, _⟩ := objs_mem.1 (List.mem_of_getElem? h.ho)
  obtain ⟨j, hj⟩ := List.getElem?_of_mem hbL
  have hp := List.pairwise_iff_getElem.1 (chain_apart (chain_iff.1 (parsed_ok.1 (allErr_ok h.rt.al).2).1)).2
  have hf : findB (allL l) a = some b := findB_first hj h.hat (fun i c hi hc e => by
    obtain ⟨i1, i2⟩ := List.getElem?_eq_some_iff.1 hc
    obtain ⟨j1, j2⟩ := List.getElem?_eq_some_iff.1 hj
    have := hp i j i1 j1 hi
    rw [i2, j2, h.hat, e] at this
    obtain ⟨x, _, _, hs, h4, _⟩ := all_mem h.rt.al (List.mem_of_getElem? hc)
    have hz := szN_ge hs
    have : c.size = szN l x := by rw [h4]; exact stand_size hs
    omega)
  have he : findErr l a = 0 := by rw [findErr, if_pos h.rt.al, hf]; rfl
  exact ⟨by rw [find, if_pos he, hf]; rfl, he⟩
set_option maxRecDepth 100000 in
set_option maxHeartbeats 2000000 in
theorem find24_any (v : Value) (l : List UInt64) (sl g n : Int) (p : Int) (kd : UInt8) (r : Int) (hp : p = kiAt l sl g n) (hk : kd = kiK l sl g n) (hr : r = kiErr l sl g n) (w : World) (h : Words w v l) :
    Calls Try.prog 55 #[v, .agg #[.int .i64 sl, .int .i64 g], .int .i64 n] w fun e w' => e = .returned (.tuple #[.int .i64 p, .int .u8 kd.toNat, .int .i64 r]) ∧ Below w.heap.size w w' := by
  have B : Below w.heap.size w w := Below.refl _ _
  have H := Lib.hid h
  obtain ⟨c, hc⟩ : ∃ c, c = chk19 l := ⟨_, rfl⟩
  have CK := Lib.hid (fun w h => Check19_any v l c hc w h)
  have hno : r ≠ 0 → p = 0 ∧ kd = 0 := fun h0 => ⟨by rw [hp, kiAt, if_neg (by rw [← hr]; exact h0)], by rw [hk, kiK, if_neg (by rw [← hr]; exact h0)]⟩
  by_cases h0 : c = 0
  case neg =>
    have haski : askI l sl g = c := by rw [askI, if_neg (by rw [← hc]; exact h0), hc]
    have hra : r = c := by rw [hr, kiErr, haski, if_neg h0]
    obtain ⟨rfl, rfl⟩ := hno (by rw [hra]; exact h0)
    subst hra
    have n1 : (r != 0) = true := by rw [bne_iff_ne]; exact h0
    clear hp hk hr hno h hc h0 haski
    go_enter Try.func55, Try.ntmps55
    go_upto_region 1 with (fail)
    refine wp_gen (fun Wv => Bx Wv (w.heap.size) (24) (#[.int .i64 sl, .int .i64 g]) ∧ Below w.heap.size w Wv) ⟨((Bx.at_ (by simp))), ((Below.refl _ w).alloc (by simp <;> omega) _)⟩ ?_
    rintro wa1 ⟨g1, b⟩
    replace B := B.trans (b.mono B.size); clear b
    have c_g1 := g1.cell; have f_g1 := g1.free; have a_g1 := fun o => (g1.alloc o).cell; have d_g1 := fun o o2 => ((g1.alloc o).alloc o2).cell; have e_g1 := fun o => (g1.alloc o).free
    go_wp2_with fail
    refine (CK.out _ (H.out.below B)).mono ?_
    rintro e wa2 ⟨rfl, b⟩
    try clear c_g1 f_g1 a_g1 d_g1 e_g1
    replace g1 := g1.below b; have c_g1 := g1.cell; have f_g1 := g1.free; have a_g1 := fun o => (g1.alloc o).cell; have d_g1 := fun o o2 => ((g1.alloc o).alloc o2).cell; have e_g1 := fun o => (g1.alloc o).free; replace B := B.trans (b.mono B.size); clear b
    go_wp2
    go_ret3
    exact ⟨rfl, B⟩
  case pos =>
    subst h0
    obtain ⟨x, hx⟩ : ∃ x, x = res l sl g := ⟨_, rfl⟩
    obtain ⟨d, hd⟩ : ∃ d, d = resErr l sl g := ⟨_, rfl⟩
    have RT := Lib.hid (fun w h => Resolve_any v l sl g x d hx hd w h)
    have ha : askI l sl g = d := by rw [askI, if_pos hc.symm, hd]
    by_cases h1 : d = 0
    case neg =>
      have hra : r = d := by rw [hr, kiErr, ha, if_neg h1]
      obtain ⟨rfl, rfl⟩ := hno (by rw [hra]; exact h1)
      subst hra
      have n1 : (r != 0) = true := by rw [bne_iff_ne]; exact h1
      clear hp hk hr hno h hc hx hd ha h1
      go_enter Try.func55, Try.ntmps55
      go_upto_region 1 with (fail)
      refine wp_gen (fun Wv => Bx Wv (w.heap.size) (24) (#[.int .i64 sl, .int .i64 g]) ∧ Below w.heap.size w Wv) ⟨((Bx.at_ (by simp))), ((Below.refl _ w).alloc (by simp <;> omega) _)⟩ ?_
      rintro wa1 ⟨g1, b⟩
      replace B := B.trans (b.mono B.size); clear b
      have c_g1 := g1.cell; have f_g1 := g1.free; have a_g1 := fun o => (g1.alloc o).cell; have d_g1 := fun o o2 => ((g1.alloc o).alloc o2).cell; have e_g1 := fun o => (g1.alloc o).free
      go_wp2_with fail
      refine (CK.out _ (H.out.below B)).mono ?_
      rintro e wa2 ⟨rfl, b⟩
      try clear c_g1 f_g1 a_g1 d_g1 e_g1
      replace g1 := g1.below b; have c_g1 := g1.cell; have f_g1 := g1.free; have a_g1 := fun o => (g1.alloc o).cell; have d_g1 := fun o o2 => ((g1.alloc o).alloc o2).cell; have e_g1 := fun o => (g1.alloc o).free; replace B := B.trans (b.mono B.size); clear b
      go_wp2_with fail
      refine (RT.out _ (H.out.below B)).mono ?_
      rintro e wa3 ⟨rfl, b⟩
      try clear c_g1 f_g1 a_g1 d_g1 e_g1
      replace g1 := g1.below b; have c_g1 := g1.cell; have f_g1 := g1.free; have a_g1 := fun o => (g1.alloc o).cell; have d_g1 := fun o o2 => ((g1.alloc o).alloc o2).cell; have e_g1 := fun o => (g1.alloc o).free; replace B := B.trans (b.mono B.size); clear b
      go_wp2
      go_ret3
      exact ⟨rfl, B⟩
    case pos =>
      subst h1
      obtain ⟨k, a, nn, q, b, t, rfl, hh⟩ := Hd.of ha
      obtain ⟨f1, f2⟩ := find_hd hh
      have hxa : x = (a : Int) := by rw [hx]; exact hh.hres
      have rt := hh.rt
      have FT := Lib.hid (fun w h => Find_any v l a b 0 f1.symm f2.symm w h)
      obtain ⟨sw, hsw⟩ : ∃ x, x = sW l := ⟨_, rfl⟩
      obtain ⟨st, hst⟩ : ∃ x, x = sT l := ⟨_, rfl⟩
      obtain ⟨i0, hi0⟩ : ∃ x, x = is0 l := ⟨_, rfl⟩
      obtain ⟨i1, hi1⟩ : ∃ x, x = is1 l := ⟨_, rfl⟩
      obtain ⟨T, hT⟩ : ∃ T, T = T19 l := ⟨_, rfl⟩
      have T3 := Lib.hid (fun w h => TRead_any v l sw st i0 i1 0 hsw hst hi0 hi1 rt.tw.symm w h)
      have KT := Lib.hid (fun w h => KTable_any v l st T 0 (by rw [hT, hst]; rfl) (by rw [hst]; exact rt.ty.symm) w h)
      have hTq : T[q]? = some t := by rw [hT]; exact hh.hT
      have hqT := (List.getElem?_eq_some_iff.1 hTq).1
      obtain ⟨nf, hnf⟩ : ∃ N, N = t.length := ⟨_, rfl⟩
      have hn8 : nf ≤ 8 := by rw [hnf]; exact hh.hn8
      have ha2 := hh.ha2
      have hbq := hh.hty
      have hki : kiErr l k g n = if 0 ≤ n ∧ n < (nf : Int) then 0 else 2 := by rw [kiErr, if_pos ha, hh.kinds, hnf]
      have hki2 : 0 ≤ n ∧ n < (nf : Int) → p = (a : Int) + 2 + n ∧ kd = t.getD n.toNat 0 := fun hn => by
        have e0 : kiErr l k g n = 0 := by rw [hki, if_pos hn]
        exact ⟨by rw [hp, kiAt, if_pos e0, hh.hres], by rw [hk, kiK, if_pos e0, hh.kinds]⟩
      rw [← hr] at hki
      have HKI := Lib.hid hki; have HKI2 := Lib.hid hki2; have HNO := Lib.hid hno; have HTQ := Lib.hid hTq; have HNF := Lib.hid hnf; have HQT := Lib.hid hqT
      subst hxa
      obtain ⟨bat, bsz, bkd, bty, bmk, bnx⟩ := b
      dsimp only at hbq
      subst hbq
      clear hp hk hr hno h hc hx hd ha hh f1 f2 rt hsw hst hi0 hi1 hT hTq hqT hnf hki hki2
      go_enter Try.func55, Try.ntmps55
      go_upto_region 1 with (fail)
      refine wp_gen (fun Wv => Bx Wv (w.heap.size) (24) (#[.int .i64 k, .int .i64 g]) ∧ Below w.heap.size w Wv) ⟨((Bx.at_ (by simp))), ((Below.refl _ w).alloc (by simp <;> omega) _)⟩ ?_
      rintro wa1 ⟨g1, b⟩
      replace B := B.trans (b.mono B.size); clear b
      have c_g1 := g1.cell; have f_g1 := g1.free; have a_g1 := fun o => (g1.alloc o).cell; have d_g1 := fun o o2 => ((g1.alloc o).alloc o2).cell; have e_g1 := fun o => (g1.alloc o).free
      go_wp2_with fail
      refine (CK.out _ (H.out.below B)).mono ?_
      rintro e wa2 ⟨rfl, b⟩
      try clear c_g1 f_g1 a_g1 d_g1 e_g1
      replace g1 := g1.below b; have c_g1 := g1.cell; have f_g1 := g1.free; have a_g1 := fun o => (g1.alloc o).cell; have d_g1 := fun o o2 => ((g1.alloc o).alloc o2).cell; have e_g1 := fun o => (g1.alloc o).free; replace B := B.trans (b.mono B.size); clear b
      go_wp2_with fail
      refine (RT.out _ (H.out.below B)).mono ?_
      rintro e wa3 ⟨rfl, b⟩
      try clear c_g1 f_g1 a_g1 d_g1 e_g1
      replace g1 := g1.below b; have c_g1 := g1.cell; have f_g1 := g1.free; have a_g1 := fun o => (g1.alloc o).cell; have d_g1 := fun o o2 => ((g1.alloc o).alloc o2).cell; have e_g1 := fun o => (g1.alloc o).free; replace B := B.trans (b.mono B.size); clear b
      clear c_g1 f_g1 a_g1 d_g1 e_g1
      clear g1
      go_wp2_with fail
      refine (FT.out _ (H.out.below B)).mono ?_
      rintro e wa4 ⟨rfl, b⟩
      replace B := B.trans (b.mono B.size); clear b
      go_upto_region 8 with (fail)
      refine wp_gen (fun Wv => Bx Wv (wa4.heap.size) (74) (#[.int .i64 bat, .int .i64 bsz, .int .i64 bkd, .int .i64 q, .bool bmk, .int .u64 bnx.toNat]) ∧ Below wa4.heap.size wa4 Wv) ⟨((Bx.at_ (by simp))), ((Below.refl _ wa4).alloc (by simp <;> omega) _)⟩ ?_
      rintro wa5 ⟨g2, b⟩
      replace B := B.trans (b.mono B.size); clear b
      have c_g2 := g2.cell; have f_g2 := g2.free; have a_g2 := fun o => (g2.alloc o).cell; have d_g2 := fun o o2 => ((g2.alloc o).alloc o2).cell; have e_g2 := fun o => (g2.alloc o).free
      go_wp2_with fail
      refine (T3.out _ (H.out.below B)).mono ?_
      rintro e wa6 ⟨rfl, b⟩
      try clear c_g2 f_g2 a_g2 d_g2 e_g2
      replace g2 := g2.below b; have c_g2 := g2.cell; have f_g2 := g2.free; have a_g2 := fun o => (g2.alloc o).cell; have d_g2 := fun o o2 => ((g2.alloc o).alloc o2).cell; have e_g2 := fun o => (g2.alloc o).free; replace B := B.trans (b.mono B.size); clear b
      go_upto_region 11 with (fail)
      refine wp_gen (fun Wv => Bx Wv (wa6.heap.size) (105) (#[.int .i64 sw, .int .i64 st]) ∧ Below wa6.heap.size wa6 Wv) ⟨(((Bx.at_ (by simp)).alloc _)), (((Below.refl _ wa6).alloc (by simp <;> omega) _).alloc (by simp <;> omega) _)⟩ ?_
      rintro wa7 ⟨g3, b⟩
      try clear c_g2 f_g2 a_g2 d_g2 e_g2
      replace g2 := g2.below b; have c_g2 := g2.cell; have f_g2 := g2.free; have a_g2 := fun o => (g2.alloc o).cell; have d_g2 := fun o o2 => ((g2.alloc o).alloc o2).cell; have e_g2 := fun o => (g2.alloc o).free; replace B := B.trans (b.mono B.size); clear b
      have c_g3 := g3.cell; have f_g3 := g3.free; have a_g3 := fun o => (g3.alloc o).cell; have d_g3 := fun o o2 => ((g3.alloc o).alloc o2).cell; have e_g3 := fun o => (g3.alloc o).free
      go_wp2_with fail
      refine (KT.out _ (H.out.below B)).mono ?_
      rintro e wa8 ⟨xt, rfl, ot, b⟩
      try clear c_g2 f_g2 a_g2 d_g2 e_g2
      replace g2 := g2.below b; have c_g2 := g2.cell; have f_g2 := g2.free; have a_g2 := fun o => (g2.alloc o).cell; have d_g2 := fun o o2 => ((g2.alloc o).alloc o2).cell; have e_g2 := fun o => (g2.alloc o).free; try clear c_g3 f_g3 a_g3 d_g3 e_g3
      replace g3 := g3.below b; have c_g3 := g3.cell; have f_g3 := g3.free; have a_g3 := fun o => (g3.alloc o).cell; have d_g3 := fun o o2 => ((g3.alloc o).alloc o2).cell; have e_g3 := fun o => (g3.alloc o).free; replace B := B.trans (b.mono B.size); clear b
      clear c_g3 f_g3 a_g3 d_g3 e_g3
      clear g3
      obtain ⟨ad, yt, t2, iy, m3, ht2, hby⟩ := ot.rd.at_ HQT.out
      obtain rfl : t2 = t := by have := ht2.out; rw [HTQ.out] at this; injection this with e; exact e.symm
      have lx := Rd.len hby.out Try.underlying68
      rw [← HNF.out] at lx
      have HBY := Lib.hid hby.out
      clear ht2 hby ot f_g2 a_g2 d_g2 e_g2
      by_cases hn : 0 ≤ n ∧ n < (nf : Int)
      · obtain ⟨hn0, hn1⟩ := hn
        obtain ⟨e1, e2⟩ := HKI2.out ⟨hn0, hn1⟩
        have hr0 : r = 0 := by rw [HKI.out, if_pos ⟨hn0, hn1⟩]
        obtain ⟨i, rfl⟩ := Int.eq_ofNat_of_zero_le hn0
        obtain ⟨bd, kk, ib, m4, hkk⟩ := HBY.out.at_ (P := Try.prog) Try.underlying68 one_u8 (k := i) (by rw [← HNF.out]; omega)
        have hkd : kd = kk := by rw [e2, Int.toNat_natCast, List.getD_eq_getElem?_getD, hkk.out]; rfl
        subst hr0; subst hkd; subst e1
        have g0 : decide ((i : Int) < 0) = false := decide_eq_false (by omega)
        have g4 : decide ((nf : Int) ≤ (i : Int)) = false := decide_eq_false (by omega)
        have g4' : decide (nf ≤ i) = false := decide_eq_false (by omega)
        have w1 : IntKind.i64.wrap ((a : Int) + 2) = (a : Int) + 2 := IntWalk.i64_in _ (by omega)
        have w2 : IntKind.i64.wrap ((a : Int) + 2 + (i : Int)) = (a : Int) + 2 + (i : Int) := IntWalk.i64_in _ (by omega)
        clear e2 hkk hn0 hn1
        go_wp2
        go_big_quiet (fail)
        go_wp2
        go_ret3
        exact ⟨rfl, below_drewN B _⟩
      · have hr0 : r = 2 := by rw [HKI.out, if_neg hn]
        obtain ⟨rfl, rfl⟩ := HNO.out (by rw [hr0]; decide)
        subst hr0
        by_cases hneg : n < 0
        · have g0 : decide (n < 0) = true := decide_eq_true hneg
          clear hn hneg
          go_wp2
          go_ret3
          exact ⟨rfl, B⟩
        · have g0 : decide (n < 0) = false := decide_eq_false hneg
          have g4 : decide ((nf : Int) ≤ n) = true := decide_eq_true (by omega)
          clear hn hneg
          go_wp2
          go_ret3
          exact ⟨rfl, B⟩
end Go.Proofs.Ytiiilaojllmmiaa
namespace Go.Proofs.Ytiiilaojllmmiaa
open Go.RowKit L01 L02 L05 L06 L07 L13 L14 L15 L18 L19 L20
end Go.Proofs.Ytiiilaojllmmiaa
namespace Go.Proofs.Ytiiilaojllmmiaa
open Go.RowKit
/-- a pointer to a handle, or none -/
def PtrH (w : World) (v : Value) (tt : Option (Int × Int)) : Prop := match tt with
  | none => v = .pointer none
  | some t => ∃ g, v = .pointer (some ⟨g, 0, none⟩) ∧ Bx w g 24 #[.int .i64 t.1, .int .i64 t.2]
theorem PtrH.below {w w' : World} {v : Value} {tt : Option (Int × Int)} (h : PtrH w v tt) (hb : Below w.heap.size w w') : PtrH w' v tt := by
  cases tt with
  | none => exact h
  | some t => obtain ⟨g, h1, h2⟩ := h; exact ⟨g, h1, h2.below hb⟩
end Go.Proofs.Ytiiilaojllmmiaa
namespace Go.Proofs.Ytiiilaojllmmiaa
open Go.RowKit L01 L02 L05 L06 L07 L13 L14 L15 L18 L19 L20
theorem ent_own {w : World} {base : Nat} {a : Int} {x : UInt64} (h : base ≤ w.heap.size) : OwnE (w.alloc (.cells #[.int .i64 a, .int .u64 x.toNat] 47)) base (.slice (some ⟨w.heap.size, 0, none⟩) 1 1) [(a, x)] :=
  ⟨rfl, .inr ⟨w.heap.size, 1, #[.int .i64 a, .int .u64 x.toNat], rfl, h, blk_new w _, Nat.le_refl _, by decide, rfl, rfl⟩⟩
theorem setV_f {k : UInt8} {x : UInt64} (h : k.toNat = 2) : setV k x = if FloatOk x then x else no := by
  unfold setV
  by_cases hf : FloatOk x
  · rw [if_neg (fun e => e.2 hf), if_pos hf]
  · rw [if_pos ⟨h, hf⟩, if_neg hf]
theorem setV_o {k : UInt8} {x : UInt64} (h : k.toNat ≠ 2) : setV k x = x := by
  unfold setV; rw [if_neg (fun e => h e.1)]
theorem new_cases {l : List UInt64} {k a nn q i : Nat} {sg : Int} {b : Hb} {t : List UInt8} {kd : UInt8} {x : UInt64} (h : L19.Fd l k a nn q i sg b t kd x) (h3 : kd.toNat = 3) (hx : x ≠ 0) : (newErr l x.toNat = 0 ∨ newErr l x.toNat = 23) ∧ (x.toNat : Int) ≤ 2048 := by
  have rt := h.hd.rt
  obtain ⟨c, hc, e⟩ := (h.ref h3).resolve_left hx
  obtain ⟨a', h1, h2, h3', h4, _, _, _, h8, _⟩ := objs_at rt.al hc
  have := rt.sz.2.1
  have hr : 128 ≤ (x.toNat : Int) ∧ (x.toNat : Int) < 2048 := by rw [← e, h2]; omega
  refine ⟨?_, by omega⟩
  unfold L18.newErr
  rw [if_pos rt.sl, if_pos hr]
  by_cases hn : next (slots l) = none
  · rw [if_pos hn]; exact .inr rfl
  · rw [if_neg hn]; exact .inl rfl
set_option maxRecDepth 100000 in
set_option maxHeartbeats 2000000 in
theorem Get24_any (v : Value) (l : List UInt64) (sl g n : Int) (x : UInt64) (r : Int) (hx : x = giV l sl g n) (hr : r = giE l sl g n) (w : World) (h : Words w v l) :
    Calls Try.prog 16 #[v, .agg #[.int .i64 sl, .int .i64 g], .int .i64 n] w fun e w' => e = .returned (.tuple #[.int .u64 x.toNat, .int .i64 r]) ∧ Below w.heap.size w w' := by
  have B : Below w.heap.size w w := Below.refl _ _
  have H := Lib.hid h
  obtain ⟨p, hp⟩ : ∃ p, p = kiAt l sl g n := ⟨_, rfl⟩
  obtain ⟨kd, hkd⟩ : ∃ k, k = kiK l sl g n := ⟨_, rfl⟩
  obtain ⟨e0, he⟩ : ∃ e, e = kiErr l sl g n := ⟨_, rfl⟩
  have FT := Lib.hid (fun w h => find24_any v l sl g n p kd e0 hp hkd he w h)
  have hx0 : r ≠ 0 → x = 0 := fun h0 => by rw [hx, giV, if_neg (by rw [← hr]; exact h0)]
  by_cases h0 : e0 = 0
  case neg =>
    have hre : r = e0 := by rw [hr, giE, ← he, if_neg h0]
    obtain rfl := hx0 (by rw [hre]; exact h0)
    subst hre
    have n1 : (r != 0) = true := by rw [bne_iff_ne]; exact h0
    clear hx hr hx0 h hp hkd he h0
    go_enter Try.func16, Try.ntmps16
    go_upto_region 1 with (fail)
    refine wp_gen (fun Wv => Bx Wv (w.heap.size) (24) (#[.int .i64 sl, .int .i64 g]) ∧ Below w.heap.size w Wv) ⟨((Bx.at_ (by simp))), ((Below.refl _ w).alloc (by simp <;> omega) _)⟩ ?_
    rintro wa1 ⟨g1, b⟩
    replace B := B.trans (b.mono B.size); clear b
    have c_g1 := g1.cell; have f_g1 := g1.free; have a_g1 := fun o => (g1.alloc o).cell; have d_g1 := fun o o2 => ((g1.alloc o).alloc o2).cell; have e_g1 := fun o => (g1.alloc o).free
    go_wp2_with fail
    refine (FT.out _ (H.out.below B)).mono ?_
    rintro e wa2 ⟨rfl, b⟩
    try clear c_g1 f_g1 a_g1 d_g1 e_g1
    replace g1 := g1.below b; have c_g1 := g1.cell; have f_g1 := g1.free; have a_g1 := fun o => (g1.alloc o).cell; have d_g1 := fun o o2 => ((g1.alloc o).alloc o2).cell; have e_g1 := fun o => (g1.alloc o).free; replace B := B.trans (b.mono B.size); clear b
    go_wp2
    go_ret2
    exact ⟨rfl, B⟩
  case pos =>
    subst h0
    by_cases h3 : kd.toNat = 3
    · have hre : r = 42 := by rw [hr, giE, if_pos he.symm, ← hkd, if_pos h3]
      obtain rfl := hx0 (by rw [hre]; decide)
      subst hre
      have k3 : ((kd.toNat : Int) == 3) = true := by rw [beq_iff_eq]; omega
      clear hx hr hx0 h hp hkd he h3
      go_enter Try.func16, Try.ntmps16
      go_upto_region 1 with (fail)
      refine wp_gen (fun Wv => Bx Wv (w.heap.size) (24) (#[.int .i64 sl, .int .i64 g]) ∧ Below w.heap.size w Wv) ⟨((Bx.at_ (by simp))), ((Below.refl _ w).alloc (by simp <;> omega) _)⟩ ?_
      rintro wa1 ⟨g1, b⟩
      replace B := B.trans (b.mono B.size); clear b
      have c_g1 := g1.cell; have f_g1 := g1.free; have a_g1 := fun o => (g1.alloc o).cell; have d_g1 := fun o o2 => ((g1.alloc o).alloc o2).cell; have e_g1 := fun o => (g1.alloc o).free
      go_wp2_with fail
      refine (FT.out _ (H.out.below B)).mono ?_
      rintro e wa2 ⟨rfl, b⟩
      try clear c_g1 f_g1 a_g1 d_g1 e_g1
      replace g1 := g1.below b; have c_g1 := g1.cell; have f_g1 := g1.free; have a_g1 := fun o => (g1.alloc o).cell; have d_g1 := fun o o2 => ((g1.alloc o).alloc o2).cell; have e_g1 := fun o => (g1.alloc o).free; replace B := B.trans (b.mono B.size); clear b
      go_wp2
      go_ret2
      exact ⟨rfl, B⟩
    · have hre : r = 0 := by rw [hr, giE, if_pos he.symm, ← hkd, if_neg h3]
      have k3 : ((kd.toNat : Int) == 3) = false := by rw [beq_eq_false_iff_ne]; omega
      obtain ⟨k, a, nn, q, i, b, t, kd', x', rfl, rfl, fd⟩ := Fd.of he.symm
      have hxx : x = x' := by rw [hx, giV, if_pos (by rw [← hr]; exact hre), fd.hW]
      have hpp : p = (a : Int) + 2 + (i : Int) := by rw [hp, fd.hAt]; omega
      have HX := Lib.hid fd.hx
      subst hre; subst hxx; subst hpp
      clear hx hr hx0 h hp hkd he h3 fd
      go_enter Try.func16, Try.ntmps16
      go_upto_region 1 with (fail)
      refine wp_gen (fun Wv => Bx Wv (w.heap.size) (24) (#[.int .i64 k, .int .i64 g]) ∧ Below w.heap.size w Wv) ⟨((Bx.at_ (by simp))), ((Below.refl _ w).alloc (by simp <;> omega) _)⟩ ?_
      rintro wa1 ⟨g1, b⟩
      replace B := B.trans (b.mono B.size); clear b
      have c_g1 := g1.cell; have f_g1 := g1.free; have a_g1 := fun o => (g1.alloc o).cell; have d_g1 := fun o o2 => ((g1.alloc o).alloc o2).cell; have e_g1 := fun o => (g1.alloc o).free
      go_wp2_with fail
      refine (FT.out _ (H.out.below B)).mono ?_
      rintro e wa2 ⟨rfl, b⟩
      try clear c_g1 f_g1 a_g1 d_g1 e_g1
      replace g1 := g1.below b; have c_g1 := g1.cell; have f_g1 := g1.free; have a_g1 := fun o => (g1.alloc o).cell; have d_g1 := fun o o2 => ((g1.alloc o).alloc o2).cell; have e_g1 := fun o => (g1.alloc o).free; replace B := B.trans (b.mono B.size); clear b
      obtain ⟨ad, x2, ia, m0, hx2⟩ := (H.out.below B).at_ (P := Try.prog) Try.underlying22 one_u64 (k := a + 2 + i) (List.getElem?_eq_some_iff.1 HX.out).1
      obtain rfl : x2 = x := by have := hx2.out; rw [HX.out] at this; injection this with e; exact e.symm
      have ia2 : ∀ W, (Instr.indexAt 22 v (.int .i64 ((a : Int) + 2 + (i : Int)))).run Try.prog W = .ok (.pointer (some ad)) W := ia
      clear hx2 ia
      go_wp2
      go_ret2
      exact ⟨rfl, B⟩
set_option maxRecDepth 100000 in
set_option maxHeartbeats 2000000 in
theorem Set24_any (v : Value) (l : List UInt64) (sl g n : Int) (x : UInt64) (E : List (Int × UInt64)) (r : Int) (hx : E = siL l sl g n x) (hr : r = giE l sl g n) (w : World) (h : Words w v l) :
    Calls Try.prog 17 #[v, .agg #[.int .i64 sl, .int .i64 g], .int .i64 n, .int .u64 x.toNat] w fun e w' => ∃ y, e = .returned (.tuple #[y, .int .i64 r]) ∧ OwnE w' w.heap.size y E ∧ Below w.heap.size w w' := by
  have B : Below w.heap.size w w := Below.refl _ _
  have H := Lib.hid h
  obtain ⟨p, hp⟩ : ∃ p, p = kiAt l sl g n := ⟨_, rfl⟩
  obtain ⟨kd, hkd⟩ : ∃ k, k = kiK l sl g n := ⟨_, rfl⟩
  obtain ⟨e0, he⟩ : ∃ e, e = kiErr l sl g n := ⟨_, rfl⟩
  have FT := Lib.hid (fun w h => find24_any v l sl g n p kd e0 hp hkd he w h)
  have hx0 : r ≠ 0 → E = [] := fun h0 => by rw [hx, siL, if_neg (by rw [← hr]; exact h0)]
  by_cases h0 : e0 = 0
  case neg =>
    have hre : r = e0 := by rw [hr, giE, ← he, if_neg h0]
    obtain rfl := hx0 (by rw [hre]; exact h0)
    subst hre
    have n1 : (r != 0) = true := by rw [bne_iff_ne]; exact h0
    clear hx hr hx0 h hp hkd he h0
    go_enter Try.func17, Try.ntmps17
    go_upto_region 1 with (fail)
    refine wp_gen (fun Wv => Bx Wv (w.heap.size) (24) (#[.int .i64 sl, .int .i64 g]) ∧ Below w.heap.size w Wv) ⟨((Bx.at_ (by simp))), ((Below.refl _ w).alloc (by simp <;> omega) _)⟩ ?_
    rintro wa1 ⟨g1, b⟩
    replace B := B.trans (b.mono B.size); clear b
    have c_g1 := g1.cell; have f_g1 := g1.free; have a_g1 := fun o => (g1.alloc o).cell; have d_g1 := fun o o2 => ((g1.alloc o).alloc o2).cell; have e_g1 := fun o => (g1.alloc o).free
    go_wp2_with fail
    refine (FT.out _ (H.out.below B)).mono ?_
    rintro e wa2 ⟨rfl, b⟩
    try clear c_g1 f_g1 a_g1 d_g1 e_g1
    replace g1 := g1.below b; have c_g1 := g1.cell; have f_g1 := g1.free; have a_g1 := fun o => (g1.alloc o).cell; have d_g1 := fun o o2 => ((g1.alloc o).alloc o2).cell; have e_g1 := fun o => (g1.alloc o).free; replace B := B.trans (b.mono B.size); clear b
    go_wp2
    go_ret2
    exact ⟨_, rfl, OwnE.nil _ _, B⟩
  case pos =>
    subst h0
    by_cases h3 : kd.toNat = 3
    · have hre : r = 42 := by rw [hr, giE, if_pos he.symm, ← hkd, if_pos h3]
      obtain rfl := hx0 (by rw [hre]; decide)
      subst hre
      have k3 : ((kd.toNat : Int) == 3) = true := by rw [beq_iff_eq]; omega
      clear hx hr hx0 h hp hkd he h3
      go_enter Try.func17, Try.ntmps17
      go_upto_region 1 with (fail)
      refine wp_gen (fun Wv => Bx Wv (w.heap.size) (24) (#[.int .i64 sl, .int .i64 g]) ∧ Below w.heap.size w Wv) ⟨((Bx.at_ (by simp))), ((Below.refl _ w).alloc (by simp <;> omega) _)⟩ ?_
      rintro wa1 ⟨g1, b⟩
      replace B := B.trans (b.mono B.size); clear b
      have c_g1 := g1.cell; have f_g1 := g1.free; have a_g1 := fun o => (g1.alloc o).cell; have d_g1 := fun o o2 => ((g1.alloc o).alloc o2).cell; have e_g1 := fun o => (g1.alloc o).free
      go_wp2_with fail
      refine (FT.out _ (H.out.below B)).mono ?_
      rintro e wa2 ⟨rfl, b⟩
      try clear c_g1 f_g1 a_g1 d_g1 e_g1
      replace g1 := g1.below b; have c_g1 := g1.cell; have f_g1 := g1.free; have a_g1 := fun o => (g1.alloc o).cell; have d_g1 := fun o o2 => ((g1.alloc o).alloc o2).cell; have e_g1 := fun o => (g1.alloc o).free; replace B := B.trans (b.mono B.size); clear b
      go_wp2
      go_ret2
      exact ⟨_, rfl, OwnE.nil _ _, B⟩
    · have hre : r = 0 := by rw [hr, giE, if_pos he.symm, ← hkd, if_neg h3]
      have k3 : ((kd.toNat : Int) == 3) = false := by rw [beq_eq_false_iff_ne]; omega
      have hE : E = [(p, setV kd x)] := by rw [hx, siL, if_pos (by rw [← hr]; exact hre), ← hp, ← hkd]
      subst hre; subst hE
      by_cases h2 : kd.toNat = 2
      · have k2 : ((kd.toNat : Int) == 2) = true := by rw [beq_iff_eq]; omega
        have HV := Lib.hid (setV_f (x := x) h2)
        have hxl := toNat_lt x
        have w1 := and_int (a := (x.toNat : Int) / 4503599627370496) 11 (by omega) (by omega) 2047 (by decide) (by omega)
        rw [show ((2 ^ 11 : Nat) : Int) = 2048 from rfl] at w1
        have hwr : IntKind.u64.wrap ((x.toNat : Int) * 4096) = (x.toNat : Int) * 4096 % 18446744073709551616 := rfl
        obtain ⟨q1, hq1⟩ : ∃ q, q = ((x.toNat : Int) / 4503599627370496 % 2048 == 2047) := ⟨_, rfl⟩
        obtain ⟨q2, hq2⟩ : ∃ q, q = ((x.toNat : Int) * 4096 % 18446744073709551616 != 0) := ⟨_, rfl⟩
        have hfi : (q1 = true ∧ q2 = true ∧ x.toNat ≠ 9221120237041090561) ↔ ¬ FloatOk x := by
          rw [← float_iff19 x, hq1, hq2, beq_iff_eq, bne_iff_ne]
        have HFI := Lib.hid hfi
        have q1e := hq1.symm; have q2e := hq2.symm
        clear hx hr hx0 h hp hkd he h3 h2 hq1 hq2 hfi
        cases q1 <;> cases q2
        all_goals
          go_enter Try.func17, Try.ntmps17
          go_upto_region 1 with (fail)
          refine wp_gen (fun Wv => Bx Wv (w.heap.size) (24) (#[.int .i64 sl, .int .i64 g]) ∧ Below w.heap.size w Wv) ⟨((Bx.at_ (by simp))), ((Below.refl _ w).alloc (by simp <;> omega) _)⟩ ?_
          rintro wa1 ⟨g1, b⟩
          replace B := B.trans (b.mono B.size); clear b
          have c_g1 := g1.cell; have f_g1 := g1.free; have a_g1 := fun o => (g1.alloc o).cell; have d_g1 := fun o o2 => ((g1.alloc o).alloc o2).cell; have e_g1 := fun o => (g1.alloc o).free
          go_wp2_with fail
          refine (FT.out _ (H.out.below B)).mono ?_
          rintro e wa2 ⟨rfl, b⟩
          try clear c_g1 f_g1 a_g1 d_g1 e_g1
          replace g1 := g1.below b; have c_g1 := g1.cell; have f_g1 := g1.free; have a_g1 := fun o => (g1.alloc o).cell; have d_g1 := fun o o2 => ((g1.alloc o).alloc o2).cell; have e_g1 := fun o => (g1.alloc o).free; replace B := B.trans (b.mono B.size); clear b
          go_wp2
          go_ret2
          refine ⟨_, rfl, ?_, B.alloc B.size _⟩
          first
            | (rw [HV.out, if_pos (Decidable.not_not.1 (fun hn => by have := HFI.out.2 hn; simp at this))]; exact ent_own B.size)
            | (have e9 : setV kd x = no := by
                rw [HV.out]
                by_cases hf : FloatOk x
                · rw [if_pos hf]
                  apply UInt64.toNat.inj
                  refine Decidable.not_not.1 (fun hn => HFI.out.1 ⟨by first | rfl | trivial, by first | rfl | trivial, hn⟩ hf)
                · rw [if_neg hf]
               rw [e9]; exact ent_own (x := no) B.size)
      · have k2 : ((kd.toNat : Int) == 2) = false := by rw [beq_eq_false_iff_ne]; omega
        have HV := Lib.hid (setV_o (x := x) h2)
        clear hx hr hx0 h hp hkd he h3 h2
        go_enter Try.func17, Try.ntmps17
        go_upto_region 1 with (fail)
        refine wp_gen (fun Wv => Bx Wv (w.heap.size) (24) (#[.int .i64 sl, .int .i64 g]) ∧ Below w.heap.size w Wv) ⟨((Bx.at_ (by simp))), ((Below.refl _ w).alloc (by simp <;> omega) _)⟩ ?_
        rintro wa1 ⟨g1, b⟩
        replace B := B.trans (b.mono B.size); clear b
        have c_g1 := g1.cell; have f_g1 := g1.free; have a_g1 := fun o => (g1.alloc o).cell; have d_g1 := fun o o2 => ((g1.alloc o).alloc o2).cell; have e_g1 := fun o => (g1.alloc o).free
        go_wp2_with fail
        refine (FT.out _ (H.out.below B)).mono ?_
        rintro e wa2 ⟨rfl, b⟩
        try clear c_g1 f_g1 a_g1 d_g1 e_g1
        replace g1 := g1.below b; have c_g1 := g1.cell; have f_g1 := g1.free; have a_g1 := fun o => (g1.alloc o).cell; have d_g1 := fun o o2 => ((g1.alloc o).alloc o2).cell; have e_g1 := fun o => (g1.alloc o).free; replace B := B.trans (b.mono B.size); clear b
        go_wp2
        go_ret2
        refine ⟨_, rfl, ?_, B.alloc B.size _⟩
        rw [HV.out]
        exact ent_own B.size
end Go.Proofs.Ytiiilaojllmmiaa
namespace Go.Proofs.Ytiiilaojllmmiaa.L20
open L02 L13 L18
theorem zeros_get (n i : Nat) : (List.replicate n (0 : UInt64)).getD i 0 = 0 := by
  rw [List.getD_eq_getElem?_getD, List.getElem?_replicate]; split <;> rfl
/-- what is known of an object that was allocated -/
structure Alld (m : Mo) (t : Int) (k : Nat) (g0 : Int) : Prop where
  hc : chk m = 0
  ht : 0 ≤ t ∧ t < m.types.length
  hn : m.objs.length < 960
  hk : k < 16
  hs : m.slots[k]? = some ⟨g0, false, 0⟩
  hg : 0 ≤ g0 ∧ g0 < 2147483647
  hM : allM m t = ⟨m.types, m.objs ++ [newO m t], m.slots.set k ⟨g0 + 1, true, m.objs.length⟩⟩
  hS : allS m t = k
  hG : allG m t = g0 + 1
theorem Alld.of {m : Mo} {t : Int} (h : allE m t = 0) : ∃ k g0, Alld m t k g0 := by
  have h' := h
  unfold allE at h
  split at h
  · rename_i hc
    obtain ⟨h8, h960, h16, hty, hobs, hsl⟩ := chk_ok hc
    split at h
    · rename_i ht
      split at h
      · omega
      · rename_i hnx
        split at h
        · omega
        · rename_i hl
          obtain ⟨k, hk⟩ := Option.ne_none_iff_exists'.1 hnx
          obtain ⟨_, ⟨s, hs, hu, hg1⟩, _⟩ := nextFrom_some hk
          rw [Nat.sub_zero] at hs
          have hkl : k < 16 := by have := (List.getElem?_eq_some_iff.1 hs).1; omega
          have hsk := hsl s (List.mem_of_getElem? hs)
          obtain ⟨g0, u, a⟩ := s
          dsimp only at hu hg1
          subst hu
          obtain rfl : a = 0 := hsk.2.1 rfl
          have hgd : m.slots.getD k .none = ⟨g0, false, 0⟩ := by rw [List.getD_eq_getElem?_getD, hs]; rfl
          have hg2 := hsk.1
          dsimp only at hg2
          refine ⟨k, g0, hc, ht, by omega, hkl, hs, by omega, ?_, ?_, ?_⟩
          · rw [allM, if_pos h', hk, Option.getD_some, givS, hgd]
          · rw [allS, if_pos h', hk, Option.getD_some]
          · rw [allG, if_pos h', hk, Option.getD_some, hgd]
    · omega
  · omega
section
variable {m : Mo} {t : Int} {k : Nat} {g0 : Int} (h : Alld m t k g0)
include h
/-- the new model -/
theorem Alld.slot : (m.slots.set k ⟨g0 + 1, true, m.objs.length⟩)[k]? = some ⟨g0 + 1, true, m.objs.length⟩ := by
  have h1 := (List.getElem?_eq_some_iff.1 h.hs).1
  rw [List.getElem?_set_self h1]
theorem Alld.ok : chk (allM m t) = 0 := by
  obtain ⟨h8, h960, h16, hty, hobs, hsl⟩ := chk_ok h.hc
  have hn := h.hn
  rw [h.hM]
  refine chk_zero (by simp; omega) ⟨by simpa using h16, hty, fun o ho => ?_, fun s hs => ?_⟩
  · rcases List.mem_append.1 ho with ho | ho
    · obtain ⟨a1, a2, a3⟩ := hobs o ho
      refine ⟨a1, a2, fun i hi => ?_⟩
      obtain ⟨b1, b2⟩ := a3 i hi
      exact ⟨b1, fun e => Nat.le_trans (b2 e) (by simp)⟩
    · rw [List.mem_singleton] at ho
      subst ho
      have ht := h.ht
      refine ⟨ht, by simp [newO, ty], fun i hi => ?_⟩
      simp only [newO, zeros_get]
      exact ⟨fun _ => by decide, fun _ => by simp⟩
  · rcases List.mem_or_eq_of_mem_set hs with hs | hs
    · obtain ⟨a1, a2, a3⟩ := hsl s hs
      exact ⟨a1, a2, fun e => by have := a3 e; simp; omega⟩
    · subst hs
      have := h.hg
      refine ⟨?_, ?_, ?_⟩
      · dsimp only; omega
      · intro e; cases e
      · intro _; simp; omega
theorem Alld.len : (allM m t).objs.length = m.objs.length + 1 := by rw [h.hM]; simp
theorem Alld.right : rightErr (allM m t).slots k (g0 + 1) = 0 := by
  have hk := h.hk
  have hs := h.slot
  have h16 := (chk_ok h.hc).2.2.1
  have hgd : (m.slots.set k ⟨g0 + 1, true, m.objs.length⟩).getD k .none = ⟨g0 + 1, true, m.objs.length⟩ := by rw [List.getD_eq_getElem?_getD, hs]; rfl
  rw [h.hM, rightErr, if_pos (by simp; omega), if_pos]
  rw [Int.toNat_natCast, hgd]
  exact ⟨rfl, rfl⟩
theorem Alld.own : own (allM m t) k = m.objs.length := by
  rw [L20.own, Int.toNat_natCast, h.hM, List.getD_eq_getElem?_getD, h.slot]; simp
theorem Alld.idle : ¬ Busy (allM m t) k m.objs.length := by
  obtain ⟨h8, h960, h16, hty, hobs, hsl⟩ := chk_ok h.hc
  rw [h.hM]
  rintro (⟨i, hi, hne, hu, ha⟩ | ⟨i, hi, hne, j, hj, hr⟩)
  · have hik : k ≠ i := fun e => hne (by rw [e])
    have hi' : i < m.slots.length := by simpa using hi
    have e : (m.slots.set k ⟨g0 + 1, true, m.objs.length⟩).getD i .none = m.slots[i] := by
      rw [List.getD_eq_getElem?_getD, List.getElem?_set_ne hik, List.getElem?_eq_getElem hi']; rfl
    dsimp only at hu ha
    rw [e] at hu ha
    have := (hsl _ (List.getElem_mem hi')).2.2 hu
    omega
  · have hi' : i < m.objs.length := by simp at hi; omega
    have e : ob ⟨m.types, m.objs ++ [newO m t], m.slots.set k ⟨g0 + 1, true, m.objs.length⟩⟩ i = m.objs[i] := by
      simp [ob, List.getD_eq_getElem?_getD, List.getElem?_append_left hi', List.getElem?_eq_getElem hi']
    rw [e] at hj hr
    have := ((hobs _ (List.getElem_mem hi')).2.2 j hj).2 hr.1
    have h2 := hr.2
    omega
theorem Alld.asked : asked (allM m t) k (g0 + 1) = 0 := by rw [L20.asked, if_pos h.ok, h.right]
theorem Alld.free : freeE (allM m t) k (g0 + 1) = 0 := by rw [freeE, if_pos h.asked, h.own, if_neg h.idle]
theorem Alld.freed : freeM (allM m t) k (g0 + 1) = ⟨m.types, m.objs, m.slots.set k ⟨g0 + 1, false, 0⟩⟩ := by
  obtain ⟨h8, h960, h16, hty, hobs, hsl⟩ := chk_ok h.hc
  have hn := h.hn
  rw [freeM, if_pos h.free, h.own, h.hM, Int.toNat_natCast]
  dsimp only
  congr 1
  · rw [List.map_append, List.eraseIdx_append_of_length_le (by simp)]
    simp only [List.length_map, Nat.sub_self, List.map_cons, List.map_nil, List.eraseIdx_cons_zero, List.append_nil]
    conv => rhs; rw [← List.map_id m.objs]
    refine List.map_congr_left fun o ho => ?_
    obtain ⟨a1, a2, a3⟩ := hobs o ho
    rw [lowO, id]
    obtain ⟨oty, ofs⟩ := o
    congr 1
    apply List.ext_getElem?
    intro i
    rcases Nat.lt_or_ge i ofs.length with hi | hi
    · have h3 := (a3 i hi).2
      rw [List.getElem?_map, List.getElem?_range hi, Option.map_some, List.getElem?_eq_getElem hi]
      congr 1
      have hg : ofs.getD i 0 = ofs[i] := by rw [List.getD_eq_getElem?_getD, List.getElem?_eq_getElem hi]; rfl
      rw [lowV, if_neg, hg]
      rintro ⟨c1, c2⟩
      have := h3 c1
      omega
    · rw [List.getElem?_eq_none (by simpa using hi), List.getElem?_eq_none hi]
  · rw [List.set_set]
    conv => rhs; rw [← List.map_id (m.slots.set k ⟨g0 + 1, false, 0⟩)]
    refine List.map_congr_left fun s hs => ?_
    rw [lowS, id]
    rcases List.mem_or_eq_of_mem_set hs with hs | hs
    · split
      · rename_i hu
        have := (hsl s hs).2.2 hu
        obtain ⟨sg, su, sa⟩ := s
        dsimp only at hu this ⊢
        subst hu
        rw [lowA, if_neg (by omega)]
      · rfl
    · subst hs; rfl
end
end Go.Proofs.Ytiiilaojllmmiaa.L20
