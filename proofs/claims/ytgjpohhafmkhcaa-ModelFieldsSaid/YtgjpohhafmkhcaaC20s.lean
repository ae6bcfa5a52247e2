/- Contracts of models: a new handle for what a field refers to. -/
import Derived.Test.YtgjpohhafmkhcaaC20r
set_option linter.unusedVariables false
set_option linter.unusedSimpArgs false
namespace Go.Proofs.Ytgjpohhafmkhcaa
open Go.RowKit L02 L13 L18 L20

theorem enter_handle (x : Value) (n : Int) (W : World) : (callFunc 44 (#[] ++ #[x, .int .i64 n] ++ #[])).run Try.prog W = .ok (.enter 44 #[x, .int .i64 n]) W := by
  simp [go_sem]
/-- the region in which a handle is made, and a block for it: g is that block. R: what holds of the model before, behind the call; ps: blocks that stay -/
def FHandle (w : World) (R : Bool → World → Prop) (ps : List (Nat × TypeId × Array Value)) (gf i : Nat) (x : Int) (a b : Int) (z : Nat) (g : Nat) : (Nat → Bool) → World → Prop := fun φ W =>
  (R (φ 6) W ∧ z ≤ W.heap.size) ∧ Below w.heap.size w W ∧ (∀ p ∈ ps, Bx W p.1 p.2.1 p.2.2) ∧ W.cell? ⟨gf, i, none⟩ = some (.int .u64 x) ∧ (φ 11 = true → φ 10 = true) ∧ (φ 10 = true → (∀ p ∈ ps, g ≠ p.1) ∧ gf ≠ g ∧ z ≤ g) ∧ (φ 10 = true → φ 11 = false → Bx W g 28 #[.int .i64 0, .int .i64 0]) ∧ (φ 11 = true → Bx W g 28 #[.int .i64 a, .int .i64 b])
theorem FHandle.dep {w : World} {R : Bool → World → Prop} {ps : List (Nat × TypeId × Array Value)} {gf i : Nat} {x a b : Int} {z g : Nat} : Dep (FHandle w R ps gf i x a b z g) [6, 10, 11] := by
  rintro φ ψ W h ⟨h1, h2, h3, h4, h5, h6, h7, h8⟩
  have e1 := h 6 (by simp); have e2 := h 10 (by simp); have e3 := h 11 (by simp)
  rw [e1] at h1; rw [e2, e3] at h5; rw [e2] at h6; rw [e2, e3] at h7; rw [e3] at h8
  exact ⟨h1, h2, h3, h4, h5, h6, h7, h8⟩
theorem FHandle.agree {w : World} {R : Bool → World → Prop} {ps : List (Nat × TypeId × Array Value)} {gf i : Nat} {x a b : Int} {z g g' : Nat} {φ : Nat → Bool} {W : World} (h : φ 10 = true → g = g') (hF : FHandle w R ps gf i x a b z g φ W) : FHandle w R ps gf i x a b z g' φ W := by
  by_cases h10 : φ 10 = true
  · rw [← h h10]; exact hF
  · obtain ⟨h1, h2, h3, h4, h5, h6, h7, h8⟩ := hF
    exact ⟨h1, h2, h3, h4, h5, fun e => absurd e h10, fun e => absurd e h10, fun e => absurd (h5 e) h10⟩
/-- the block is made -/
theorem FHandle.alloc {w : World} {R : Bool → World → Prop} {ps : List (Nat × TypeId × Array Value)} {gf i : Nat} {x a b : Int} {z g : Nat} {φ : Nat → Bool} {W : World} (hF : FHandle w R ps gf i x a b z g φ W) (h10 : φ 10 = false) (hR : ∀ c W o, R c W → R c (W.alloc o)) :
    FHandle w R ps gf i x a b z W.heap.size (fun j => j == 10 || φ j) (W.alloc (.cells #[.int .i64 0, .int .i64 0] 28)) := by
  obtain ⟨h1, h2, h3, h4, h5, h6, h7, h8⟩ := hF
  have h11 : φ 11 = false := by
    cases e : φ 11
    · rfl
    · rw [h5 e] at h10; cases h10
  have hlt := World.block_lt_of_cell? W _ h4
  refine ⟨⟨by simpa using hR _ _ _ h1.1, by simp; omega⟩, h2.alloc h2.size _, fun p hp => (h3 p hp).alloc _, cell_later ((Below.refl _ W).alloc (Nat.le_refl _) _) h4, by simp, fun _ => ⟨fun p hp => by have := (h3 p hp).lt; omega, by simp at hlt; omega, h1.2⟩, fun _ _ => Bx.new _ _ _, by simp [h11]⟩
/-- the handle is made -/
theorem FHandle.call {w : World} {R : Bool → World → Prop} {ps : List (Nat × TypeId × Array Value)} {gf i : Nat} {x a b : Int} {z g : Nat} {φ : Nat → Bool} {W W' : World} {row : Option Nat} (hF : FHandle w R ps gf i x a b z g φ W) (hk : Keep W W' row) (hps : ∀ p ∈ ps, row ≠ some p.1) (hgf : row ≠ some gf) (hrow : ∀ k, row = some k → k < z)
    (hR : R true W') (hB : Below w.heap.size w W') : FHandle w R ps gf i x a b z g (fun j => j == 6 || φ j) W' := by
  obtain ⟨h1, h2, h3, h4, h5, h6, h7, h8⟩ := hF
  have hlt := World.block_lt_of_cell? W _ h4
  have hrg : φ 10 = true → row = none ∨ row ≠ some g := fun e => by
    rcases row with _ | k
    · exact .inl rfl
    · have h := hrow k rfl
      have h' := (h6 e).2.2
      exact .inr (fun e => by injection e with e; omega)
  refine ⟨⟨by simpa using hR, Nat.le_trans h1.2 hk.1⟩, hB, fun p hp => (h3 p hp).keep hk (.inr (hps p hp)), ?_, by simpa using h5, by simpa using h6, fun e1 e2 => ?_, fun e => ?_⟩
  · rw [World.cell?_of_block (hk.2 gf hlt (fun e => hgf e.symm))]; exact h4
  · have e1' : φ 10 = true := by simpa using e1
    exact (h7 e1' (by simpa using e2)).keep hk (hrg e1')
  · have e' : φ 11 = true := by simpa using e
    exact (h8 e').keep hk (hrg (h5 e'))
/-- the handle is stored -/
theorem FHandle.store {w : World} {R : Bool → World → Prop} {ps : List (Nat × TypeId × Array Value)} {gf i : Nat} {x a b : Int} {z g : Nat} {φ : Nat → Bool} {W : World} (hF : FHandle w R ps gf i x a b z g φ W) (hz : w.heap.size ≤ z) (h10 : φ 10 = true) (h11 : φ 11 = false)
    (hR : ∀ c W p cs u, Bx W g 28 cs → R c W → R c (W.setCell ⟨g, p, none⟩ u)) :
    (W.cell? ⟨g, 0, none⟩ = some (.int .i64 0) ∧ W.cell? ⟨g, 1, none⟩ = some (.int .i64 0) ∧ ∀ j, W.frozen? ⟨g, j, none⟩ = false) ∧ FHandle w R ps gf i x a b z g (fun j => j == 11 || φ j) ((W.setCell ⟨g, 0, none⟩ (.int .i64 a)).setCell ⟨g, 1, none⟩ (.int .i64 b)) := by
  obtain ⟨h1, h2, h3, h4, h5, h6, h7, h8⟩ := hF
  have hb := h7 h10 h11
  obtain ⟨k1, k2, k3⟩ := h6 h10
  have k4 := Nat.le_trans hz k3
  refine ⟨⟨hb.cell 0, hb.cell 1, fun j => hb.free j⟩, ⟨?_, by simpa [World.setCell] using h1.2⟩, (h2.setCell (p := ⟨g, 0, none⟩) k4 _).setCell (p := ⟨g, 1, none⟩) k4 _, fun p hp => ((h3 p hp).far (p := ⟨g, 0, none⟩) (Ne.symm (k1 p hp)) _).far (p := ⟨g, 1, none⟩) (Ne.symm (k1 p hp)) _, cell_far (cell_far h4 k2) k2, fun _ => by simpa using h10, fun _ => ⟨k1, k2, k3⟩, fun _ e => by simp at e, fun _ => ?_⟩
  · have := hR _ _ 1 _ (.int .i64 b) (hb.set (i := 0) (.int .i64 a)) (hR _ _ 0 _ (.int .i64 a) hb h1.1)
    simpa using this
  · have := (hb.set (i := 0) (.int .i64 a)).set (i := 1) (.int .i64 b)
    simpa using this

theorem ne_of_or {o : Option Nat} {k : Nat} (h : o = none ∨ o ≠ some k) : o ≠ some k := by
  rcases h with rfl | h
  · exact fun e => by cases e
  · exact h
/-- making a handle in a model of the call's own: one of two ways -/
theorem handle_way {m : Mo} {n : Int} (hc : chk m = 0) (hfit : 0 ≤ n) : ∃ (a b : Int) (ok : Bool) (m2 : Mo), (∀ (tv ov sv : Value) (B0 : Nat) (w : World), OwnM w B0 67 tv ov sv m → B0 ≤ w.heap.size →
    Calls Try.prog 44 #[.agg #[tv, ov, sv], .int .i64 n] w fun e w' => e = .returned (.tuple #[.agg #[.int .i64 a, .int .i64 b], .bool ok]) ∧ OwnM w' B0 67 tv ov sv m2 ∧ Below B0 w w' ∧ Keep w w' sv.ownBlock) ∧
    ((ok = false ∧ next m.slots = none) ∨ (ok = true ∧ ∃ k s, next m.slots = some k ∧ m.slots[k]? = some s ∧ a = (k : Int) ∧ b = s.gen + 1 ∧ m2 = ⟨m.types, m.objs, m.slots.set k ⟨s.gen + 1, true, n⟩⟩)) := by
  obtain ⟨_, _, h16, _, _, hsl⟩ := chk_ok hc
  have hgen : ∀ s ∈ m.slots, 0 ≤ s.gen ∧ s.gen ≤ 2147483647 := fun s hs => (hsl s hs).1
  cases hn : next m.slots with
  | none =>
    refine ⟨0, 0, false, m, fun tv ov sv B0 w h hB => (handle_no tv ov sv m n hn hgen h16 w h.rd).mono fun e w' ⟨h1, h2⟩ => ⟨h1, h.below h2, h2.mono hB, Keep.of_below h2⟩, .inl ⟨rfl, rfl⟩⟩
  | some k =>
    obtain ⟨_, ⟨s, hs, _⟩, _⟩ := nextFrom_some hn
    rw [Nat.sub_zero] at hs
    exact ⟨k, s.gen + 1, true, _, fun tv ov sv B0 w h hB => handle_ok tv ov sv m n k s hn hs hgen h16 B0 w h hB, .inr ⟨rfl, k, s, rfl, hs, rfl, rfl, rfl⟩⟩

def valH (u : Value) (g k : Nat) : Value := if k = 6 then u else .pointer (some ⟨g, 0, none⟩)
def TH (av : Array Value) (k : Nat) (s : Sem Next) : Prop := if k = 6 then (∀ W, s.run Try.prog W = .ok (.enter 44 av) W) else ∀ W, s.run Try.prog W = .ok (.value (.pointer (some ⟨W.heap.size, 0, none⟩))) (W.alloc (.cells #[.int .i64 0, .int .i64 0] 28))
/-- the region of Root -/
theorem wp_region_handle {id : Nat} {Q : Exit → Act → World → Prop} {ac : Act} {w0 : World} {l : List Oper} (w : World) (R : Bool → World → Prop) (ps : List (Nat × TypeId × Array Value)) (gf i : Nat) (x a b : Int) (ok : Bool) (z : Nat) (av : Array Value) (row : Option Nat)
    (hm : (Try.prog).follows .mixedOrders = true) (hB : Region.lexB .any l.toArray = true)
    (hf : (([6, 10, 11] : List Nat).all fun j => (setAll l.length 0 (Array.replicate l.length false)).getD j false) = true)
    (hnj : (([6, 10] : List Nat).all fun k => ([6, 10, 11] : List Nat).contains k && match l.toArray[k]? with | some o => (([] : List Nat)).all (fun j => o.after.any fun e => Region.binds .any e && e.on == j) | none => false) = true)
    (hC : FHandle w R ps gf i x a b z 0 (fun _ => false) w0.drew) (hwz : w.heap.size ≤ z) (hps : ∀ p ∈ ps, row ≠ some p.1) (hgf : row ≠ some gf) (hrow : ∀ k, row = some k → k < z)
    (hRa : ∀ c W o, R c W → R c (W.alloc o))
    (hcall : ∀ W, R false W → z ≤ W.heap.size → Below w.heap.size w W → Calls Try.prog 44 av W fun e W' => e = .returned (.tuple #[.agg #[.int .i64 a, .int .i64 b], .bool ok]) ∧ R true W' ∧ Below w.heap.size w W' ∧ Keep W W' row)
    (h : ∀ g, wpM Try.prog .any l.toArray (CN (FHandle w R ps gf i x a b z g)) (fun i => ([6, 10] : List Nat).contains i) (valH (.tuple #[.agg #[.int .i64 a, .int .i64 b], .bool ok]) g) (TH av) (fun a' => ∀ w', FHandle w R ps gf i x a b z g (fun _ => true) w' → Q .normal a' w') l 0 ac) : (Code.region id l.toArray true).wp Try.prog Q ac w0 := by
  refine wp_region_M (valH (.tuple #[.agg #[.int .i64 a, .int .i64 b], .bool ok])) (fun φ g g' => φ 10 = true → g = g') (FHandle w R ps gf i x a b z) [6, 10, 11] [6, 10] (fun _ => []) (TH av) 0 (fun g => FHandle.dep) hm hB hf hnj
    (fun φ ψ g g' he h e => h (by rw [he 10 (by simp)]; exact e)) (fun φ g _ => rfl) (fun φ g g' g'' h1 h2 e => (h1 e).trans (h2 e)) (fun φ k g g' h hk e => h (by simp [e])) ?_ (fun φ g g' W h hF => FHandle.agree h hF) (fun g e => by cases e) hC ?_ h
  · intro φ k g g' hk h0 hA
    simp only [List.mem_cons, List.not_mem_nil, or_false] at hk
    rcases hk with rfl | rfl
    · rfl
    · rw [hA (by simp)]
  · intro k s φ W g hk hT h0 _ hF
    simp only [List.mem_cons, List.not_mem_nil, or_false] at hk
    rcases hk with rfl | rfl
    · have hT' : ∀ W, s.run Try.prog W = .ok (.enter 44 av) W := hT
      rw [hT' W]
      have hR := hF.1.1
      rw [h0] at hR
      refine (hcall W hR hF.1.2 hF.2.1).mono fun e W' ⟨e1, e2, e3, e4⟩ => ⟨_, e1, g, fun _ => rfl, rfl, ?_⟩
      exact FHandle.call hF e4 hps hgf hrow e2 e3
    · have hT' : ∀ W, s.run Try.prog W = .ok (.value (.pointer (some ⟨W.heap.size, 0, none⟩))) (W.alloc (.cells #[.int .i64 0, .int .i64 0] 28)) := hT
      rw [hT' W]
      refine ⟨W.heap.size, ?_, rfl, FHandle.alloc hF h0 hRa⟩
      intro e
      rw [h0] at e; cases e

/-- two results are stored, in either order -/
def FTwoR (w : World) (B0 : Nat) (t o s : Value) (m : Mo) (p7 p4 gq : Nat) (p3 : Nat) (a b : Int) : (Nat → Bool) → World → Prop := fun f W =>
  Below w.heap.size w W ∧ OwnM W B0 67 t o s m ∧ Bx W p3 26 (if f 2 = true then #[t, o, s] else #[.slice none 0 0, .slice none 0 0, .slice none 0 0]) ∧ Bx W p7 28 (if f 3 = true then #[.int .i64 a, .int .i64 b] else #[.int .i64 0, .int .i64 0]) ∧
    Bx W p4 26 #[t, o, s] ∧ Bx W gq 28 #[.int .i64 a, .int .i64 b]
theorem FTwoR.dep {w : World} {B0 : Nat} {t o s : Value} {m : Mo} {p7 p4 gq p3 : Nat} {a b : Int} : Dep (FTwoR w B0 t o s m p7 p4 gq p3 a b) [2, 3] := by
  rintro f g W h ⟨h1, h2, h3, h4, h5, h6⟩
  have e1 := h 2 (by simp); have e2 := h 3 (by simp)
  rw [e1] at h3; rw [e2] at h4
  exact ⟨h1, h2, h3, h4, h5, h6⟩
theorem FTwoR.store2 {w : World} {B0 : Nat} {t o s : Value} {m : Mo} {p7 p4 gq p3 : Nat} {a b : Int} {f : Nat → Bool} {W : World} (hF : FTwoR w B0 t o s m p7 p4 gq p3 a b f W) (h2 : f 2 = false) (hw : w.heap.size ≤ p3) (n7 : p7 ≠ p3) (n4 : p4 ≠ p3) (nq : gq ≠ p3) :
    (∀ j, W.cell? ⟨p3, j, none⟩ = (#[.slice none 0 0, .slice none 0 0, .slice none 0 0] : Array Value)[j]?) ∧ (∀ j, W.frozen? ⟨p3, j, none⟩ = false) ∧ FTwoR w B0 t o s m p7 p4 gq p3 a b (fun j => j == 2 || f j) (((W.setCell ⟨p3, 0, none⟩ t).setCell ⟨p3, 1, none⟩ o).setCell ⟨p3, 2, none⟩ s) := by
  obtain ⟨h1, om, h3, h4, h5, h6⟩ := hF
  rw [h2] at h3
  have h3 : Bx W p3 26 #[.slice none 0 0, .slice none 0 0, .slice none 0 0] := h3
  have fr := fun {q : Nat} {tq : TypeId} {cs : Array Value} (hb : Bx W q tq cs) (hn : q ≠ p3) => ((hb.far (p := ⟨p3, 0, none⟩) hn t).far (p := ⟨p3, 1, none⟩) hn o).far (p := ⟨p3, 2, none⟩) hn s
  refine ⟨h3.cell, h3.free, ((h1.setCell (p := ⟨p3, 0, none⟩) hw t).setCell (p := ⟨p3, 1, none⟩) hw o).setCell (p := ⟨p3, 2, none⟩) hw s, OwnM.set3 om h3, ?_, by simpa using fr h4 n7, fr h5 n4, fr h6 nq⟩
  have := ((h3.set (i := 0) t).set (i := 1) o).set (i := 2) s
  simpa using this
theorem FTwoR.store3 {w : World} {B0 : Nat} {t o s : Value} {m : Mo} {p7 p4 gq p3 : Nat} {a b : Int} {f : Nat → Bool} {W : World} (hF : FTwoR w B0 t o s m p7 p4 gq p3 a b f W) (h2 : f 3 = false) (hw : w.heap.size ≤ p7) (n3 : p3 ≠ p7) (n4 : p4 ≠ p7) (nq : gq ≠ p7) :
    (∀ j, W.cell? ⟨p7, j, none⟩ = (#[.int .i64 0, .int .i64 0] : Array Value)[j]?) ∧ (∀ j, W.frozen? ⟨p7, j, none⟩ = false) ∧ FTwoR w B0 t o s m p7 p4 gq p3 a b (fun j => j == 3 || f j) ((W.setCell ⟨p7, 0, none⟩ (.int .i64 a)).setCell ⟨p7, 1, none⟩ (.int .i64 b)) := by
  obtain ⟨h1, om, h3, h4, h5, h6⟩ := hF
  rw [h2] at h4
  have h4 : Bx W p7 28 #[.int .i64 0, .int .i64 0] := h4
  have fr := fun {q : Nat} {tq : TypeId} {cs : Array Value} (hb : Bx W q tq cs) (hn : q ≠ p7) => (hb.far (p := ⟨p7, 0, none⟩) hn (.int .i64 a)).far (p := ⟨p7, 1, none⟩) hn (.int .i64 b)
  refine ⟨h4.cell, h4.free, (h1.setCell (p := ⟨p7, 0, none⟩) hw _).setCell (p := ⟨p7, 1, none⟩) hw _, OwnM.setH (OwnM.setH om h4) (h4.set (i := 0) (.int .i64 a)), by simpa using fr h3 n3, ?_, fr h5 n4, fr h6 nq⟩
  have := (h4.set (i := 0) (.int .i64 a)).set (i := 1) (.int .i64 b)
  simpa using this
end Go.Proofs.Ytgjpohhafmkhcaa
