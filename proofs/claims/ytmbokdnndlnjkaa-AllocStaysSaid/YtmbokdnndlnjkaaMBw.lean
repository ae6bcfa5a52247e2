/- Contracts of the functions that the laws 'B' reach, part 23. No condition. -/
import Derived.Test.YtmbokdnndlnjkaaMBv
set_option linter.unusedVariables false
set_option linter.unusedSimpArgs false
namespace Go.Proofs.Ytmbokdnndlnjkaa
open Go.RowKit L02 L13 L18 L20
/-- the region in which a handle is made, and a block for it: g is that block. R: what holds of the model before, behind the call; ps: blocks that stay -/
def FHandle (w : World) (R : Bool → World → Prop) (ps : List (Nat × TypeId × Array Value)) (gf i : Nat) (x : Int) (a b : Int) (z : Nat) (g : Nat) : (Nat → Bool) → World → Prop := fun φ W =>
  (R (φ 6) W ∧ z ≤ W.heap.size) ∧ Below w.heap.size w W ∧ (∀ p ∈ ps, Bx W p.1 p.2.1 p.2.2) ∧ W.cell? ⟨gf, i, none⟩ = some (.int .u64 x) ∧ (φ 11 = true → φ 10 = true) ∧ (φ 10 = true → (∀ p ∈ ps, g ≠ p.1) ∧ gf ≠ g ∧ z ≤ g) ∧ (φ 10 = true → φ 11 = false → Bx W g 35 #[.int .i64 0, .int .i64 0]) ∧ (φ 11 = true → Bx W g 35 #[.int .i64 a, .int .i64 b])
theorem FHandle.dep {w : World} {R : Bool → World → Prop} {ps : List (Nat × TypeId × Array Value)} {gf i : Nat} {x a b : Int} {z g : Nat} : Dep (FHandle w R ps gf i x a b z g) [6, 10, 11] := by
  rintro φ ψ W h ⟨h1, h2, h3, h4, h5, h6, h7, h8⟩
  have e1 := h 6 (by simp); have e2 := h 10 (by simp); have e3 := h 11 (by simp)
  rw [e1] at h1; rw [e2, e3] at h5; rw [e2] at h6; rw [e2, e3] at h7; rw [e3] at h8
  exact ⟨h1, h2, h3, h4, h5, h6, h7, h8⟩
theorem FHandle.agree {w : World} {R : Bool → World → Prop} {ps : List (Nat × TypeId × Array Value)} {gf i : Nat} {x a b : Int} {z g g' : Nat} {φ : Nat → Bool} {W : World} (h : φ 10 = true → g = g') (hF : FHandle w R ps gf i x a b z g φ W) : FHandle w R ps gf i x a b z g' φ W := by
  by_cases h10 : φ 10 = true
  · rw [← h h10]; exact hF
  · obtain ⟨h1, h2, h3, h4, h5, h6, h7, h8⟩ := hF
    exact ⟨h1, h2, h3, h4, h5, fun e => absurd e h10, fun e => absurd e h10, fun e => absurd (h5 e) h10⟩
/-- the block is made -/
theorem FHandle.alloc {w : World} {R : Bool → World → Prop} {ps : List (Nat × TypeId × Array Value)} {gf i : Nat} {x a b : Int} {z g : Nat} {φ : Nat → Bool} {W : World} (hF : FHandle w R ps gf i x a b z g φ W) (h10 : φ 10 = false) (hR : ∀ c W o, R c W → R c (W.alloc o)) :
    FHandle w R ps gf i x a b z W.heap.size (fun j => j == 10 || φ j) (W.alloc (.cells #[.int .i64 0, .int .i64 0] 35)) := by
  obtain ⟨h1, h2, h3, h4, h5, h6, h7, h8⟩ := hF
  have h11 : φ 11 = false := by
    cases e : φ 11
    · rfl
    · rw [h5 e] at h10; cases h10
  have hlt := World.block_lt_of_cell? W _ h4
  refine ⟨⟨by simpa using hR _ _ _ h1.1, by simp; omega⟩, h2.alloc h2.size _, fun p hp => (h3 p hp).alloc _, cell_later ((Below.refl _ W).alloc (Nat.le_refl _) _) h4, by simp, fun _ => ⟨fun p hp => by have := (h3 p hp).lt; omega, by simp at hlt; omega, h1.2⟩, fun _ _ => Bx.new _ _ _, by simp [h11]⟩
/-- the handle is made -/
theorem FHandle.call {w : World} {R : Bool → World → Prop} {ps : List (Nat × TypeId × Array Value)} {gf i : Nat} {x a b : Int} {z g : Nat} {φ : Nat → Bool} {W W' : World} {row : Option Nat} (hF : FHandle w R ps gf i x a b z g φ W) (hk : Keep W W' row) (hps : ∀ p ∈ ps, row ≠ some p.1) (hgf : row ≠ some gf) (hrow : ∀ k, row = some k → k < z)
    (hR : R true W') (hB : Below w.heap.size w W') : FHandle w R ps gf i x a b z g (fun j => j == 6 || φ j) W' := by
  obtain ⟨h1, h2, h3, h4, h5, h6, h7, h8⟩ := hF
  have hlt := World.block_lt_of_cell? W _ h4
  have hrg : φ 10 = true → row = none ∨ row ≠ some g := fun e => by
    rcases row with _ | k
    · exact .inl rfl
    · have h := hrow k rfl
      have h' := (h6 e).2.2
      exact .inr (fun e => by injection e with e; omega)
  refine ⟨⟨by simpa using hR, Nat.le_trans h1.2 hk.1⟩, hB, fun p hp => (h3 p hp).keep hk (.inr (hps p hp)), ?_, by simpa using h5, by simpa using h6, fun e1 e2 => ?_, fun e => ?_⟩
  · rw [World.cell?_of_block (hk.2 gf hlt (fun e => hgf e.symm))]; exact h4
  · have e1' : φ 10 = true := by simpa using e1
    exact (h7 e1' (by simpa using e2)).keep hk (hrg e1')
  · have e' : φ 11 = true := by simpa using e
    exact (h8 e').keep hk (hrg (h5 e'))
/-- the handle is stored -/
theorem FHandle.store {w : World} {R : Bool → World → Prop} {ps : List (Nat × TypeId × Array Value)} {gf i : Nat} {x a b : Int} {z g : Nat} {φ : Nat → Bool} {W : World} (hF : FHandle w R ps gf i x a b z g φ W) (hz : w.heap.size ≤ z) (h10 : φ 10 = true) (h11 : φ 11 = false)
    (hR : ∀ c W p cs u, Bx W g 35 cs → R c W → R c (W.setCell ⟨g, p, none⟩ u)) :
    (W.cell? ⟨g, 0, none⟩ = some (.int .i64 0) ∧ W.cell? ⟨g, 1, none⟩ = some (.int .i64 0) ∧ ∀ j, W.frozen? ⟨g, j, none⟩ = false) ∧ FHandle w R ps gf i x a b z g (fun j => j == 11 || φ j) ((W.setCell ⟨g, 0, none⟩ (.int .i64 a)).setCell ⟨g, 1, none⟩ (.int .i64 b)) := by
  obtain ⟨h1, h2, h3, h4, h5, h6, h7, h8⟩ := hF
  have hb := h7 h10 h11
  obtain ⟨k1, k2, k3⟩ := h6 h10
  have k4 := Nat.le_trans hz k3
  refine ⟨⟨hb.cell 0, hb.cell 1, fun j => hb.free j⟩, ⟨?_, by simpa [World.setCell] using h1.2⟩, (h2.setCell (p := ⟨g, 0, none⟩) k4 _).setCell (p := ⟨g, 1, none⟩) k4 _, fun p hp => ((h3 p hp).far (p := ⟨g, 0, none⟩) (Ne.symm (k1 p hp)) _).far (p := ⟨g, 1, none⟩) (Ne.symm (k1 p hp)) _, cell_far (cell_far h4 k2) k2, fun _ => by simpa using h10, fun _ => ⟨k1, k2, k3⟩, fun _ e => by simp at e, fun _ => ?_⟩
  · have := hR _ _ 1 _ (.int .i64 b) (hb.set (i := 0) (.int .i64 a)) (hR _ _ 0 _ (.int .i64 a) hb h1.1)
    simpa using this
  · have := (hb.set (i := 0) (.int .i64 a)).set (i := 1) (.int .i64 b)
    simpa using this
theorem ne_of_or {o : Option Nat} {k : Nat} (h : o = none ∨ o ≠ some k) : o ≠ some k := by
  rcases h with rfl | h
  · exact fun e => by cases e
  · exact h
/-- making a handle in a model of the call's own: one of two ways -/
theorem handle_way {m : Mo} {n : Int} (hc : chk m = 0) (hfit : 0 ≤ n) : ∃ (a b : Int) (ok : Bool) (m2 : Mo), (∀ (tv ov sv : Value) (B0 : Nat) (w : World), OwnM w B0 46 tv ov sv m → B0 ≤ w.heap.size →
    Calls Try.prog 81 #[.agg #[tv, ov, sv], .int .i64 n] w fun e w' => e = .returned (.tuple #[.agg #[.int .i64 a, .int .i64 b], .bool ok]) ∧ OwnM w' B0 46 tv ov sv m2 ∧ Below B0 w w' ∧ Keep w w' sv.ownBlock) ∧
    ((ok = false ∧ next m.slots = none) ∨ (ok = true ∧ ∃ k s, next m.slots = some k ∧ m.slots[k]? = some s ∧ a = (k : Int) ∧ b = s.gen + 1 ∧ m2 = ⟨m.types, m.objs, m.slots.set k ⟨s.gen + 1, true, n⟩⟩)) := by
  obtain ⟨_, _, h16, _, _, hsl⟩ := chk_ok hc
  have hgen : ∀ s ∈ m.slots, 0 ≤ s.gen ∧ s.gen ≤ 2147483647 := fun s hs => (hsl s hs).1
  cases hn : next m.slots with
  | none =>
    refine ⟨0, 0, false, m, fun tv ov sv B0 w h hB => (handle_no tv ov sv m n hn hgen h16 w h.rd).mono fun e w' ⟨h1, h2⟩ => ⟨h1, h.below h2, h2.mono hB, Keep.of_below h2⟩, .inl ⟨rfl, rfl⟩⟩
  | some k =>
    obtain ⟨_, ⟨s, hs, _⟩, _⟩ := nextFrom_some hn
    rw [Nat.sub_zero] at hs
    exact ⟨k, s.gen + 1, true, _, fun tv ov sv B0 w h hB => handle_ok tv ov sv m n k s hn hs hgen h16 B0 w h hB, .inr ⟨rfl, k, s, rfl, hs, rfl, rfl, rfl⟩⟩
/-- two results are stored, in either order -/
def FTwoR (w : World) (B0 : Nat) (t o s : Value) (m : Mo) (p7 p4 gq : Nat) (p3 : Nat) (a b : Int) : (Nat → Bool) → World → Prop := fun f W =>
  Below w.heap.size w W ∧ OwnM W B0 46 t o s m ∧ Bx W p3 85 (if f 2 = true then #[t, o, s] else #[.slice none 0 0, .slice none 0 0, .slice none 0 0]) ∧ Bx W p7 35 (if f 3 = true then #[.int .i64 a, .int .i64 b] else #[.int .i64 0, .int .i64 0]) ∧
    Bx W p4 85 #[t, o, s] ∧ Bx W gq 35 #[.int .i64 a, .int .i64 b]
theorem FTwoR.dep {w : World} {B0 : Nat} {t o s : Value} {m : Mo} {p7 p4 gq p3 : Nat} {a b : Int} : Dep (FTwoR w B0 t o s m p7 p4 gq p3 a b) [2, 3] := by
  rintro f g W h ⟨h1, h2, h3, h4, h5, h6⟩
  have e1 := h 2 (by simp); have e2 := h 3 (by simp)
  rw [e1] at h3; rw [e2] at h4
  exact ⟨h1, h2, h3, h4, h5, h6⟩
theorem FTwoR.store2 {w : World} {B0 : Nat} {t o s : Value} {m : Mo} {p7 p4 gq p3 : Nat} {a b : Int} {f : Nat → Bool} {W : World} (hF : FTwoR w B0 t o s m p7 p4 gq p3 a b f W) (h2 : f 2 = false) (hw : w.heap.size ≤ p3) (n7 : p7 ≠ p3) (n4 : p4 ≠ p3) (nq : gq ≠ p3) :
    (∀ j, W.cell? ⟨p3, j, none⟩ = (#[.slice none 0 0, .slice none 0 0, .slice none 0 0] : Array Value)[j]?) ∧ (∀ j, W.frozen? ⟨p3, j, none⟩ = false) ∧ FTwoR w B0 t o s m p7 p4 gq p3 a b (fun j => j == 2 || f j) (((W.setCell ⟨p3, 0, none⟩ t).setCell ⟨p3, 1, none⟩ o).setCell ⟨p3, 2, none⟩ s) := by
  obtain ⟨h1, om, h3, h4, h5, h6⟩ := hF
  rw [h2] at h3
  have h3 : Bx W p3 85 #[.slice none 0 0, .slice none 0 0, .slice none 0 0] := h3
  have fr := fun {q : Nat} {tq : TypeId} {cs : Array Value} (hb : Bx W q tq cs) (hn : q ≠ p3) => ((hb.far (p := ⟨p3, 0, none⟩) hn t).far (p := ⟨p3, 1, none⟩) hn o).far (p := ⟨p3, 2, none⟩) hn s
  refine ⟨h3.cell, h3.free, ((h1.setCell (p := ⟨p3, 0, none⟩) hw t).setCell (p := ⟨p3, 1, none⟩) hw o).setCell (p := ⟨p3, 2, none⟩) hw s, OwnM.set3 om h3, ?_, by simpa using fr h4 n7, fr h5 n4, fr h6 nq⟩
  have := ((h3.set (i := 0) t).set (i := 1) o).set (i := 2) s
  simpa using this
theorem FTwoR.store3 {w : World} {B0 : Nat} {t o s : Value} {m : Mo} {p7 p4 gq p3 : Nat} {a b : Int} {f : Nat → Bool} {W : World} (hF : FTwoR w B0 t o s m p7 p4 gq p3 a b f W) (h2 : f 3 = false) (hw : w.heap.size ≤ p7) (n3 : p3 ≠ p7) (n4 : p4 ≠ p7) (nq : gq ≠ p7) :
    (∀ j, W.cell? ⟨p7, j, none⟩ = (#[.int .i64 0, .int .i64 0] : Array Value)[j]?) ∧ (∀ j, W.frozen? ⟨p7, j, none⟩ = false) ∧ FTwoR w B0 t o s m p7 p4 gq p3 a b (fun j => j == 3 || f j) ((W.setCell ⟨p7, 0, none⟩ (.int .i64 a)).setCell ⟨p7, 1, none⟩ (.int .i64 b)) := by
  obtain ⟨h1, om, h3, h4, h5, h6⟩ := hF
  rw [h2] at h4
  have h4 : Bx W p7 35 #[.int .i64 0, .int .i64 0] := h4
  have fr := fun {q : Nat} {tq : TypeId} {cs : Array Value} (hb : Bx W q tq cs) (hn : q ≠ p7) => (hb.far (p := ⟨p7, 0, none⟩) hn (.int .i64 a)).far (p := ⟨p7, 1, none⟩) hn (.int .i64 b)
  refine ⟨h4.cell, h4.free, (h1.setCell (p := ⟨p7, 0, none⟩) hw _).setCell (p := ⟨p7, 1, none⟩) hw _, OwnM.setH (OwnM.setH om h4) (h4.set (i := 0) (.int .i64 a)), by simpa using fr h3 n3, ?_, fr h5 n4, fr h6 nq⟩
  have := (h4.set (i := 0) (.int .i64 a)).set (i := 1) (.int .i64 b)
  simpa using this
end Go.Proofs.Ytmbokdnndlnjkaa
namespace Go.Proofs.Ytmbokdnndlnjkaa
open Go.RowKit L02 L13 L18 L20
end Go.Proofs.Ytmbokdnndlnjkaa
namespace Go.Proofs.Ytmbokdnndlnjkaa
open Go.RowKit L02 L13 L18 L20
end Go.Proofs.Ytmbokdnndlnjkaa
namespace Go.Proofs.Ytmbokdnndlnjkaa
open Go.RowKit L02 L13 L18 L20
end Go.Proofs.Ytmbokdnndlnjkaa
namespace Go.Proofs.Ytmbokdnndlnjkaa
open Go.RowKit L02 L13 L18 L20
end Go.Proofs.Ytmbokdnndlnjkaa
namespace Go.Proofs.Ytmbokdnndlnjkaa
open Go.RowKit L02 L13 L18 L20
end Go.Proofs.Ytmbokdnndlnjkaa
namespace Go.Proofs.Ytmbokdnndlnjkaa
open Go.RowKit L02 L13 L18 L20
end Go.Proofs.Ytmbokdnndlnjkaa
namespace Go.Proofs.Ytmbokdnndlnjkaa
open Go.RowKit L02 L13 L18 L20
end Go.Proofs.Ytmbokdnndlnjkaa
namespace Go.Proofs.Ytmbokdnndlnjkaa
open Go.RowKit L02 L13 L18 L20
/-- a row of an own table -/
theorem OwnT.at1 {w : World} {base : Nat} {v : Value} {L : List (List UInt8)} (h : OwnT w base v L) {k : Nat} {l : List UInt8} (hl : L[k]? = some l) :
    ∃ ad y, (∀ W, (Instr.indexAt 70 v (.int .i64 (k : Int))).run Try.prog W = .ok (.pointer (some ad)) W) ∧ w.cell? ad = some y ∧ (∀ ty W, (Builtin.len_ #[28] ty #[y]).run Try.prog W = .ok (.int .i64 (l.length : Int)) W) ∧ v.ownBlock = some ad.block := by
  obtain ⟨vs, h1, h2, h4⟩ := h
  have hk : k < L.length := (List.getElem?_eq_some_iff.1 hl).1
  have hv : vs[k]? = some vs[k] := List.getElem?_eq_getElem (by omega)
  have hr := h4 k _ _ hv hl
  obtain ⟨g, c, cur, e, hg, _⟩ := own_form h2 (by omega)
  refine ⟨cellAt v (k * 1), vs[k], fun W => Rd.ixN (Rd.of_own h2) Try.underlying70 one_bytes hk W, by rw [Nat.mul_one]; exact Rd.cell (Rd.of_own h2) hv, Rd.len (OwnB.rd hr) Try.underlying28, ?_⟩
  rw [e]; rfl
/-- make([]uint64, n) -/
theorem run_make_words {w : World} (n : Nat) (hn : n ≤ 1000) : ∃ w', (Instr.makeSlice 22 (.int .i64 (n : Int)) (.int .i64 (n : Int))).run Try.prog w = .ok (.slice (some ⟨w.heap.size, 0, none⟩) n n) w' ∧ OwnW w' w.heap.size 24 (.slice (some ⟨w.heap.size, 0, none⟩) n n) (List.replicate n 0) ∧ Below w.heap.size w w' := by
  obtain ⟨i, hi1, hi2, hi3, hi4⟩ := info3 info_u64
  obtain ⟨w', hrun, g1, g2⟩ := run_make_full (P := Try.prog) w w.heap.size 22 _ i _ 1 Try.underlying22 hi1 hi2 hi3 .i64 .i64 n (by rw [hi4]; omega) (by unfold maxLen; omega) (Nat.le_refl _)
  refine ⟨w', hrun, OwnW.of g1 ?_, (Below.refl _ w).grown g2 (Nat.le_refl _) (fun _ hk => by cases hk)⟩
  rw [Nat.mul_one, show (Value.int IntKind.u64 0).cells = #[Value.int IntKind.u64 0] from rfl, toList_madeCells_one]
  simp [u64]
set_option maxRecDepth 100000 in
set_option maxHeartbeats 8000000 in
theorem Alloc20_own (tv ov sv : Value) (m : Mo) (t : Int) (M : Mo) (r hs hg : Int) (hM : M = allM m t) (hr : r = allE m t) (hhs : hs = allS m t) (hhg : hg = allG m t) (w : World) (h : Mod w tv ov sv m) :
    Calls Try.prog 43 #[.agg #[tv, ov, sv], .int .i64 t] w fun e w' => ∃ t' o' s', e = .returned (.tuple #[.agg #[t', o', s'], .agg #[.int .i64 hs, .int .i64 hg], .int .i64 r]) ∧ OwnM w' w.heap.size 46 t' o' s' M ∧ Below w.heap.size w w' := by
  have B : Below w.heap.size w w := Below.refl _ _
  have H := Lib.hid h
  have hno : r ≠ 0 → M = .nil ∧ hs = 0 ∧ hg = 0 := fun h => ⟨by rw [hM, allM, ← hr, if_neg h], by rw [hhs, allS, ← hr, if_neg h], by rw [hhg, allG, ← hr, if_neg h]⟩
  obtain ⟨c, hc⟩ : ∃ c, c = chk m := ⟨_, rfl⟩
  have CT := Lib.hid (fun w h => Check20_any tv ov sv m c hc w h)
  have lt := h.t.len
  obtain ⟨NT, hNT⟩ : ∃ N, N = m.types.length := ⟨_, rfl⟩
  rw [← hNT] at lt
  by_cases h0 : chk m = 0
  · have hc0 : c = 0 := by rw [hc, h0]
    subst hc0
    by_cases ht : 0 ≤ t ∧ t < NT
    · obtain ⟨q, rfl⟩ := Int.eq_ofNat_of_zero_le ht.1
      have n1 : ¬ (q : Int) < 0 := by omega
      have n2 : ¬ (NT : Int) ≤ (q : Int) := by omega
      have n3 : ¬ NT ≤ q := by omega
      have hq : q < m.types.length := by omega
      obtain ⟨l, hl⟩ : ∃ l, m.types[q]? = some l := ⟨_, List.getElem?_eq_getElem hq⟩
      obtain ⟨k1, k2, k3⟩ := chk_ok h0
      have hl8 : l.length ≤ 8 := (kErr_ok (k3.2.1 l (List.mem_of_getElem? hl))).1
      have CP := Lib.hid (fun w h => copied_any tv ov sv m (small_chk h0) w h)
      obtain ⟨NO, hNO⟩ : ∃ N, N = m.objs.length := ⟨_, rfl⟩
      obtain ⟨a, b, ok, m2, hHC, hway⟩ := handle_way (m := m) (n := (NO : Int)) h0 (by omega)
      have HC := Lib.hid hHC; have HW := Lib.hid hway
      have hr1 : next m.slots = none → r = 23 := fun hn => by rw [hr, allE, if_pos h0, if_pos (by omega), if_pos hn]
      have hr2 : ∀ k, next m.slots = some k → NO = 960 → r = 4 := fun k hn h9 => by rw [hr, allE, if_pos h0, if_pos (by omega), if_neg (by rw [hn]; exact fun e => by cases e), if_pos (by omega)]
      have hr3 : ∀ k, next m.slots = some k → ¬ NO = 960 → r = 0 := fun k hn h9 => by rw [hr, allE, if_pos h0, if_pos (by omega), if_neg (by rw [hn]; exact fun e => by cases e), if_neg (by omega)]
      have hyes : r = 0 → M = ⟨m.types, m.objs ++ [⟨(q : Int), List.replicate l.length 0⟩], givS m m.objs.length ((next m.slots).getD 0)⟩ ∧ hs = ((next m.slots).getD 0 : Nat) ∧ hg = (m.slots.getD ((next m.slots).getD 0) .none).gen + 1 := fun h => ⟨by rw [hM, allM, ← hr, if_pos h, newO]; simp [List.getD_eq_getElem?_getD, hl], by rw [hhs, allS, ← hr, if_pos h], by rw [hhg, allG, ← hr, if_pos h]⟩
      have HR1 := Lib.hid hr1; have HR2 := Lib.hid hr2; have HR3 := Lib.hid hr3; have HNO := Lib.hid hno; have HYES := Lib.hid hyes
      have HLL := Lib.hid hl; have HNN := Lib.hid hNO
      have HX960 := Lib.hid k2
      clear hr hM hhs hhg hno h0 h hHC hway hr1 hr2 hr3 hyes hc ht hq k1 k2 k3 hl hNO hNT
      go_enter Try.func43, Try.ntmps43
      go_upto_region 1 with (fail)
      refine wp_gen (fun Wv => Bx Wv (w.heap.size) (85) (#[tv, ov, sv]) ∧ Bx Wv (w.heap.size + 1) (85) (#[.slice none 0 0, .slice none 0 0, .slice none 0 0]) ∧ Bx Wv (w.heap.size + 1 + 1) (35) (#[.int .i64 0, .int .i64 0]) ∧ Below w.heap.size w Wv) ⟨((((Bx.at_ (by simp)).alloc _).alloc _)), (((Bx.at_ (by simp)).alloc _)), ((Bx.at_ (by simp))), ((((Below.refl _ w).alloc (by simp <;> omega) _).alloc (by simp <;> omega) _).alloc (by simp <;> omega) _)⟩ ?_
      rintro wa1 ⟨g1, g3, g7, b⟩
      replace B := B.trans (b.mono B.size); clear b
      have c_g1 := g1.cell; have f_g1 := g1.free; have a_g1 := fun o => (g1.alloc o).cell; have d_g1 := fun o o2 => ((g1.alloc o).alloc o2).cell; have e_g1 := fun o => (g1.alloc o).free
      have c_g3 := g3.cell; have f_g3 := g3.free; have a_g3 := fun o => (g3.alloc o).cell; have d_g3 := fun o o2 => ((g3.alloc o).alloc o2).cell; have e_g3 := fun o => (g3.alloc o).free
      have c_g7 := g7.cell; have f_g7 := g7.free; have a_g7 := fun o => (g7.alloc o).cell; have d_g7 := fun o o2 => ((g7.alloc o).alloc o2).cell; have e_g7 := fun o => (g7.alloc o).free
      go_wp2_with fail
      refine (CT.out _ (H.out.below B)).mono ?_
      rintro e wa2 ⟨rfl, b⟩
      try clear c_g1 f_g1 a_g1 d_g1 e_g1
      replace g1 := g1.below b; have c_g1 := g1.cell; have f_g1 := g1.free; have a_g1 := fun o => (g1.alloc o).cell; have d_g1 := fun o o2 => ((g1.alloc o).alloc o2).cell; have e_g1 := fun o => (g1.alloc o).free; try clear c_g3 f_g3 a_g3 d_g3 e_g3
      replace g3 := g3.below b; have c_g3 := g3.cell; have f_g3 := g3.free; have a_g3 := fun o => (g3.alloc o).cell; have d_g3 := fun o o2 => ((g3.alloc o).alloc o2).cell; have e_g3 := fun o => (g3.alloc o).free; try clear c_g7 f_g7 a_g7 d_g7 e_g7
      replace g7 := g7.below b; have c_g7 := g7.cell; have f_g7 := g7.free; have a_g7 := fun o => (g7.alloc o).cell; have d_g7 := fun o o2 => ((g7.alloc o).alloc o2).cell; have e_g7 := fun o => (g7.alloc o).free; replace B := B.trans (b.mono B.size); clear b
      have hz1 := B.size; have hp7 := g7.lt
      go_wp2_with fail
      refine (CP.out _ (H.out.below B)).mono ?_
      rintro e wa3 ⟨t', o', s', rfl, om, b⟩
      try clear c_g1 f_g1 a_g1 d_g1 e_g1
      replace g1 := g1.below b; have c_g1 := g1.cell; have f_g1 := g1.free; have a_g1 := fun o => (g1.alloc o).cell; have d_g1 := fun o o2 => ((g1.alloc o).alloc o2).cell; have e_g1 := fun o => (g1.alloc o).free; try clear c_g3 f_g3 a_g3 d_g3 e_g3
      replace g3 := g3.below b; have c_g3 := g3.cell; have f_g3 := g3.free; have a_g3 := fun o => (g3.alloc o).cell; have d_g3 := fun o o2 => ((g3.alloc o).alloc o2).cell; have e_g3 := fun o => (g3.alloc o).free; try clear c_g7 f_g7 a_g7 d_g7 e_g7
      replace g7 := g7.below b; have c_g7 := g7.cell; have f_g7 := g7.free; have a_g7 := fun o => (g7.alloc o).cell; have d_g7 := fun o o2 => ((g7.alloc o).alloc o2).cell; have e_g7 := fun o => (g7.alloc o).free; replace B := B.trans (b.mono B.size); clear b
      replace om : OwnM _ w.heap.size 46 t' o' s' m := OwnM.mono om hz1
      obtain ⟨⟨tA, tn, tc, rfl⟩, ⟨oA, on, oc, rfl⟩, ⟨sA, sn, sc, rfl⟩⟩ := om.forms
      have lo := om.rd.o.len
      rw [← HNN.out] at lo
      have hpc := g7.lt
      go_upto_region 7 with (fail)
      refine wp_gen (fun Wv => Bx Wv (wa3.heap.size) (85) (#[.slice tA tn tc, .slice oA on oc, .slice sA sn sc]) ∧ Below wa3.heap.size wa3 Wv) ⟨((Bx.at_ (by simp))), ((Below.refl _ wa3).alloc (by simp <;> omega) _)⟩ ?_
      rintro wa4 ⟨g4, b⟩
      try clear c_g1 f_g1 a_g1 d_g1 e_g1
      replace g1 := g1.below b; have c_g1 := g1.cell; have f_g1 := g1.free; have a_g1 := fun o => (g1.alloc o).cell; have d_g1 := fun o o2 => ((g1.alloc o).alloc o2).cell; have e_g1 := fun o => (g1.alloc o).free; try clear c_g3 f_g3 a_g3 d_g3 e_g3
      replace g3 := g3.below b; have c_g3 := g3.cell; have f_g3 := g3.free; have a_g3 := fun o => (g3.alloc o).cell; have d_g3 := fun o o2 => ((g3.alloc o).alloc o2).cell; have e_g3 := fun o => (g3.alloc o).free; try clear c_g7 f_g7 a_g7 d_g7 e_g7
      replace g7 := g7.below b; have c_g7 := g7.cell; have f_g7 := g7.free; have a_g7 := fun o => (g7.alloc o).cell; have d_g7 := fun o o2 => ((g7.alloc o).alloc o2).cell; have e_g7 := fun o => (g7.alloc o).free; replace om := om.below b; replace B := B.trans (b.mono B.size); clear b
      have c_g4 := g4.cell; have f_g4 := g4.free; have a_g4 := fun o => (g4.alloc o).cell; have d_g4 := fun o o2 => ((g4.alloc o).alloc o2).cell; have e_g4 := fun o => (g4.alloc o).free
      go_wp2_with fail
      have hs1 := own_not_bx om.s g1 (by decide); have hs3 := own_not_bx om.s g3 (by decide); have hs7 := own_not_bx om.s g7 (by decide); have hs4 := own_not_bx om.s g4 (by decide)
      refine (HC.out _ _ _ w.heap.size _ om B.size).mono ?_
      rintro e w5 ⟨rfl, om2, B2, K⟩
      replace g1 := g1.keep K hs1; replace g3 := g3.keep K hs3; replace g7 := g7.keep K hs7; replace g4 := g4.keep K hs4
      replace B := B.trans B2
      clear om B2 K hs1 hs3 hs7 hs4 c_g1 f_g1 a_g1 d_g1 e_g1 c_g3 f_g3 a_g3 d_g3 e_g3 c_g7 f_g7 a_g7 d_g7 e_g7 c_g4 f_g4 a_g4 d_g4 e_g4
      have c_g1 := g1.cell; have c_g3 := g3.cell; have f_g3 := g3.free; have c_g7 := g7.cell; have f_g7 := g7.free; have c_g4 := g4.cell
      have om := om2
      clear om2
      have hp34 := g4.lt
      go_upto_region 8 with (fail)
      refine wp_gen (fun Wv => Bx Wv (w5.heap.size) (35) (#[.int .i64 a, .int .i64 b]) ∧ Below w5.heap.size w5 Wv) ⟨((Bx.at_ (by simp))), ((Below.refl _ w5).alloc (by simp <;> omega) _)⟩ ?_
      rintro wa5 ⟨g9, b⟩
      try clear c_g1 f_g1 a_g1 d_g1 e_g1
      replace g1 := g1.below b; have c_g1 := g1.cell; have f_g1 := g1.free; have a_g1 := fun o => (g1.alloc o).cell; have d_g1 := fun o o2 => ((g1.alloc o).alloc o2).cell; have e_g1 := fun o => (g1.alloc o).free; try clear c_g3 f_g3 a_g3 d_g3 e_g3
      replace g3 := g3.below b; have c_g3 := g3.cell; have f_g3 := g3.free; have a_g3 := fun o => (g3.alloc o).cell; have d_g3 := fun o o2 => ((g3.alloc o).alloc o2).cell; have e_g3 := fun o => (g3.alloc o).free; try clear c_g7 f_g7 a_g7 d_g7 e_g7
      replace g7 := g7.below b; have c_g7 := g7.cell; have f_g7 := g7.free; have a_g7 := fun o => (g7.alloc o).cell; have d_g7 := fun o o2 => ((g7.alloc o).alloc o2).cell; have e_g7 := fun o => (g7.alloc o).free; try clear c_g4 f_g4 a_g4 d_g4 e_g4
      replace g4 := g4.below b; have c_g4 := g4.cell; have f_g4 := g4.free; have a_g4 := fun o => (g4.alloc o).cell; have d_g4 := fun o o2 => ((g4.alloc o).alloc o2).cell; have e_g4 := fun o => (g4.alloc o).free; replace om := om.below b; replace B := B.trans (b.mono B.size); clear b
      have c_g9 := g9.cell; have f_g9 := g9.free; have a_g9 := fun o => (g9.alloc o).cell; have d_g9 := fun o o2 => ((g9.alloc o).alloc o2).cell; have e_g9 := fun o => (g9.alloc o).free
      cases ok
      · have hn : next m.slots = none := by
          rcases HW.out with ⟨_, h⟩ | ⟨h, _⟩
          · exact h
          · cases h
        obtain rfl : r = 23 := HR1.out hn
        obtain ⟨rfl, rfl, rfl⟩ := HNO.out (by decide)
        clear om
        go_wp2
        refine bodyPost_ret (v := .tuple #[.agg #[.slice none 0 0, .slice none 0 0, .slice none 0 0], .agg #[.int .i64 0, .int .i64 0], .int .i64 23]) (by simp [results, Try.results43, go_sem, c_g3, f_g3, c_g7, f_g7]) rfl ?_
        refine ⟨_, _, _, rfl, OwnM.nil _ _, ?_⟩
        (repeat (first | refine Below.setCell ?_ (by first | exact Nat.le_refl _ | (simp <;> omega)) _ | refine Below.alloc ?_ (by first | exact B.size | (have := B.size; simp <;> omega)) _)); exact B
      · obtain ⟨k, s, hnx, hsk, ea, eb, em⟩ : ∃ k s, next m.slots = some k ∧ m.slots[k]? = some s ∧ a = (k : Int) ∧ b = s.gen + 1 ∧ m2 = ⟨m.types, m.objs, m.slots.set k ⟨s.gen + 1, true, (NO : Int)⟩⟩ := by
          rcases HW.out with ⟨h, _⟩ | ⟨_, h⟩
          · cases h
          · exact h
        by_cases h9 : NO = 960
        · obtain rfl : r = 4 := HR2.out k hnx h9
          obtain ⟨rfl, rfl, rfl⟩ := HNO.out (by decide)
          have q9 : ((NO : Int) == 960) = true := by rw [beq_iff_eq]; omega
          clear om
          go_wp2
          refine bodyPost_ret (v := .tuple #[.agg #[.slice none 0 0, .slice none 0 0, .slice none 0 0], .agg #[.int .i64 0, .int .i64 0], .int .i64 4]) (by simp [results, Try.results43, go_sem, c_g3, f_g3, c_g7, f_g7]) rfl ?_
          refine ⟨_, _, _, rfl, OwnM.nil _ _, ?_⟩
          (repeat (first | refine Below.setCell ?_ (by first | exact Nat.le_refl _ | (simp <;> omega)) _ | refine Below.alloc ?_ (by first | exact B.size | (have := B.size; simp <;> omega)) _)); exact B
        · obtain rfl : r = 0 := HR3.out k hnx h9
          have q9 : ((NO : Int) == 960) = false := by rw [beq_eq_false_iff_ne]; omega
          obtain ⟨e1, e2, e3⟩ := HYES.out rfl
          rw [hnx] at e1 e2 e3
          have hgd : m.slots.getD k .none = s := by simp [List.getD_eq_getElem?_getD, hsk]
          have hMM : M = ⟨m2.types, m2.objs ++ [⟨(q : Int), List.replicate l.length 0⟩], m2.slots⟩ := by
            rw [e1, em, ← HNN.out]
            show (⟨m.types, _, m.slots.set k ⟨(m.slots.getD k .none).gen + 1, true, _⟩⟩ : Mo) = _
            rw [hgd]
          have hha : hs = a := by rw [e2, ea]; rfl
          have hhb : hg = b := by rw [e3, eb]; show (m.slots.getD k .none).gen + 1 = _; rw [hgd]
          have hT2 : m2.types[q]? = some l := by rw [em]; exact HLL.out
          have hO2 : m2.objs.length = NO := by rw [em]; exact HNN.out.symm
          subst hha; subst hhb
          have HMM := Lib.hid hMM; have HT2 := Lib.hid hT2; have HO2 := Lib.hid hO2
          have hNO : NO < 960 := by have : m.objs.length ≤ 960 := HX960.out; have := HNN.out; omega
          clear e1 e2 e3 ea eb em hgd hnx hsk hMM hT2 hO2 h9
          go_upto_region 12 with (fail)
          have h59 := g9.lt
          have hB := B.size
          obtain ⟨W1, r1, oy, b1⟩ := run_make_words (w := wa5.drew) l.length (by omega)
          replace r1 : (Instr.makeSlice 22 (.int .i64 (l.length : Int)) (.int .i64 (l.length : Int))).run Try.prog wa5.drew = .ok (.slice (some ⟨wa5.heap.size, 0, none⟩) l.length l.length) W1 := r1
          replace oy : OwnW W1 wa5.heap.size 24 (.slice (some ⟨wa5.heap.size, 0, none⟩) l.length l.length) (List.replicate l.length 0) := oy
          replace b1 : Below wa5.heap.size wa5 W1 := (Below.refl _ wa5).drew.trans b1
          obtain ⟨ad, yr, it, mad, lyr, had⟩ := om.t.at1 HT2.out
          obtain ⟨tvs, t1, t2, t4⟩ := om.t
          obtain ⟨vs, z1, z2, z4, z5⟩ := om.o
          have hz := b1.size
          obtain ⟨v, W3, r3, o3, gr3⟩ := run_append_rd (P := Try.prog) (w := W1.alloc (.cells #[i64 (q : Int), .slice (some ⟨wa5.heap.size, 0, none⟩) l.length l.length] 135)) (ty := 83) (B := w.heap.size) Try.underlying83 info_obj rfl (by omega) (own_below z2 (b1.alloc hz _)) lit_obj (one_obj rfl) (by have := HO2.out; omega) (by have := HO2.out; omega) (by simp; omega)
          have hs9 := own_not_bx z2 g9 (by decide); have hs7 := own_not_bx z2 g7 (by decide)
          have MM := Lib.hid (copyO_mem (o := ⟨(q : Int), List.replicate l.length 0⟩) (a := w.heap.size) (b := w.heap.size + 1) (p := wa3.heap.size) z1 z2 z4 z5 oy b1 o3 gr3 g1 g3 g4 om.t om.s B hB (by omega) (by omega) (by omega) g9 hs9 (by omega))
          have b3 := b1.alloc hz (.cells #[i64 (q : Int), .slice (some ⟨wa5.heap.size, 0, none⟩) l.length l.length] 135)
          have z2' := own_below z2 b3
          have q43 : Bx W3 wa3.heap.size 85 #[.slice tA tn tc, .slice oA on oc, .slice sA sn sc] := Bx.grown (g4.below b3) gr3 (own_not_bx z2' (g4.below b3) (by decide))
          have q7 : Bx (W3.setCell ⟨wa3.heap.size, 1, none⟩ v) (w.heap.size + 1 + 1) 35 #[.int .i64 0, .int .i64 0] := ((g7.below b3).grown gr3 hs7).far (p := ⟨wa3.heap.size, 1, none⟩) (by show w.heap.size + 1 + 1 ≠ wa3.heap.size; omega) v
          have hadO : some ad.block ≠ (Value.slice oA on oc).ownBlock := by
            have := own_unlike t2 z2 (by decide)
            rw [had] at this
            rcases this with h | h
            · cases h
            · exact h
          have hadP : ad.block ≠ wa3.heap.size := by
            have := ne_of_or (own_not_bx t2 g4 (by decide))
            rw [had] at this
            exact fun e => this (by rw [e])
          have m3 : W3.cell? ad = some yr := gr3.cell (cell_later b3 mad) hadO
          obtain ⟨vA, vn, vc, rfl⟩ : ∃ A n c, v = .slice A n c := by obtain ⟨A, c, e⟩ := own_form' o3; exact ⟨A, _, c, e⟩
          have AL : ∀ d, d ≤ 5 → ((wsO wa5 wa3.heap.size (q : Int) ⟨.slice (some ⟨wa5.heap.size, 0, none⟩) l.length l.length, W1, .slice vA vn vc, W3⟩) d).cell? ⟨wa3.heap.size, 0, none⟩ = some (.slice tA tn tc) ∧ ((wsO wa5 wa3.heap.size (q : Int) ⟨.slice (some ⟨wa5.heap.size, 0, none⟩) l.length l.length, W1, .slice vA vn vc, W3⟩) d).cell? ad = some yr := by
            intro d hd
            rcases d with _ | _ | _ | _ | _ | d
            · exact ⟨g4.cell 0, mad⟩
            · exact ⟨(g4.below b1).cell 0, cell_later b1 mad⟩
            · exact ⟨(g4.below b1).cell 0, cell_later b1 mad⟩
            · exact ⟨(g4.below b3).cell 0, cell_later b3 mad⟩
            · exact ⟨q43.cell 0, m3⟩
            · exact ⟨MM.out.2.2.2.2.1.cell 0, cell_far m3 hadP⟩
          have ca := fun x : FXN (FL [9, 10, 11, 12, 14] (wsO wa5 wa3.heap.size (q : Int) ⟨.slice (some ⟨wa5.heap.size, 0, none⟩) l.length l.length, W1, .slice vA vn vc, W3⟩) 1 3) => (FL.all (ks := [9, 10, 11, 12, 14]) (Ws := (wsO wa5 wa3.heap.size (q : Int) ⟨.slice (some ⟨wa5.heap.size, 0, none⟩) l.length l.length, W1, .slice vA vn vc, W3⟩)) (p := fun W => W.cell? ⟨wa3.heap.size, 0, none⟩ = some (.slice tA tn tc) ∧ W.cell? ad = some yr) AL x).1
          have cb := fun x : FXN (FL [9, 10, 11, 12, 14] (wsO wa5 wa3.heap.size (q : Int) ⟨.slice (some ⟨wa5.heap.size, 0, none⟩) l.length l.length, W1, .slice vA vn vc, W3⟩) 1 3) => (FL.all (ks := [9, 10, 11, 12, 14]) (Ws := (wsO wa5 wa3.heap.size (q : Int) ⟨.slice (some ⟨wa5.heap.size, 0, none⟩) l.length l.length, W1, .slice vA vn vc, W3⟩)) (p := fun W => W.cell? ⟨wa3.heap.size, 0, none⟩ = some (.slice tA tn tc) ∧ W.cell? ad = some yr) AL x).2
          have p0 := g4.cell 1; have p1 := (g4.below b1).cell 1; have p3 := (g4.below b3).cell 1
          haveI : Nonempty (FXN (FL [9, 10, 11, 12, 14] (wsO wa5 wa3.heap.size (q : Int) ⟨.slice (some ⟨wa5.heap.size, 0, none⟩) l.length l.length, W1, .slice vA vn vc, W3⟩) 1 3)) := ⟨⟨_, _, FL.start⟩⟩
          clear c_g1 f_g1 a_g1 d_g1 e_g1 c_g3 f_g3 a_g3 d_g3 e_g3 c_g7 f_g7 a_g7 d_g7 e_g7 c_g4 f_g4 a_g4 d_g4 e_g4 c_g9 f_g9 a_g9 d_g9 e_g9
          refine wp_region_N (FL [9, 10, 11, 12, 14] (wsO wa5 wa3.heap.size (q : Int) ⟨.slice (some ⟨wa5.heap.size, 0, none⟩) l.length l.length, W1, .slice vA vn vc, W3⟩) 1 3) [1, 9, 10, 11, 12, 14] FL.dep (by kernel_rfl) (by kernel_rfl) (by kernel_rfl) FL.start ?_
          refine wpN_read FL.dep rfl (by decide) ?_; go_big_quiet_step (fail); refine wpQuiet_nil ?_
          refine wpN_step FL.dep rfl (by rfl) (v := .slice oA on oc) [] rfl (fun f W hF h0 _ => ?_) ?_
          · obtain ⟨⟨d, hd, hd2, rfl⟩, hF'⟩ := FL.read (by decide) hF h0
            refine ⟨_, ?_, hF'⟩
            have hc : ((wsO wa5 wa3.heap.size (q : Int) ⟨.slice (some ⟨wa5.heap.size, 0, none⟩) l.length l.length, W1, .slice vA vn vc, W3⟩) d).cell? ⟨wa3.heap.size, 1, none⟩ = some (.slice oA on oc) := by
              rcases d with _ | _ | _ | _ | d
              · exact p0
              · exact p1
              · exact p1
              · exact p3
              · omega
            simp [execOp, go_sem, hc]
          simp only [Act.put, List.setIfInBounds_toArray, List.set_cons_zero, List.set_cons_succ]
          iterate 6 (refine wpN_read FL.dep rfl (by decide) ?_; go_big_quiet_step (fail); refine wpQuiet_nil ?_)
          refine wpN_len FL.dep rfl (by decide) rfl (fun W => lyr _ W) ?_
          simp only [Act.put, List.setIfInBounds_toArray, List.set_cons_zero, List.set_cons_succ]
          refine wpN_step FL.dep rfl (by rfl) (v := .slice (some ⟨wa5.heap.size, 0, none⟩) l.length l.length) [] (by kernel_rfl) (fun f W hF h0 h1 => ?_) ?_
          · obtain ⟨rfl, h2⟩ := FL.step (i := 0) rfl (by decide) hF h0 (by intro p hp; omega) (by omega)
            exact ⟨_, by simp [execOp, Act.eval, wsO, r1], h2⟩
          simp only [Act.put, List.setIfInBounds_toArray, List.set_cons_zero, List.set_cons_succ]
          refine wpN_step FL.dep rfl (by rfl) (v := .agg #[i64 (q : Int), .slice (some ⟨wa5.heap.size, 0, none⟩) l.length l.length]) [9] (by kernel_rfl) (fun f W hF h0 h1 => ?_) ?_
          · obtain ⟨rfl, h2⟩ := FL.step (i := 1) rfl (by decide) hF h0 (FL.prev (p := 0) (q := 9) rfl (h1 9 (by simp))) (by omega)
            exact ⟨_, by simp [execOp, go_sem, wsO, i64], h2⟩
          simp only [Act.put, List.setIfInBounds_toArray, List.set_cons_zero, List.set_cons_succ]
          refine wpN_step FL.dep rfl (by rfl) (v := .slice (some ⟨W1.heap.size, 0, none⟩) 1 1) [10] (by kernel_rfl) (fun f W hF h0 h1 => ?_) ?_
          · obtain ⟨rfl, h2⟩ := FL.step (i := 2) rfl (by decide) hF h0 (FL.prev (p := 1) (q := 10) rfl (h1 10 (by simp))) (by omega)
            exact ⟨_, by simp [execOp, go_sem, wsO, i64], h2⟩
          simp only [Act.put, List.setIfInBounds_toArray, List.set_cons_zero, List.set_cons_succ]
          refine wpN_step FL.dep rfl (by rfl) (v := .slice vA vn vc) [11, 1] (by kernel_rfl) (fun f W hF h0 h1 => ?_) ?_
          · obtain ⟨rfl, h2⟩ := FL.step (i := 3) rfl (by decide) hF h0 (FL.prev (p := 2) (q := 11) rfl (h1 11 (by simp))) (fun _ => h1 1 (by simp))
            exact ⟨_, by simp [execOp, resolve, invoke, builtin, Act.eval, wsO, r3], h2⟩
          simp only [Act.put, List.setIfInBounds_toArray, List.set_cons_zero, List.set_cons_succ]
          refine wpN_read FL.dep rfl (by decide) ?_; go_big_quiet_step (fail); refine wpQuiet_nil ?_
          refine wpN_storeD FL.dep rfl 83 (.tmp 62) (.tmp 61) rfl (by rfl) (p := .pointer (some ⟨wa3.heap.size, 1, none⟩)) (u := .slice vA vn vc) (by rfl) (by rfl) [12] (by kernel_rfl) (fun f W hF h0 h1 => ?_) ?_
          · obtain ⟨rfl, h2⟩ := FL.step (i := 4) rfl (by decide) hF h0 (FL.prev (p := 3) (q := 12) rfl (h1 12 (by simp))) (by omega)
            refine ⟨_, ?_, h2⟩
            have hc := MM.out.1.1; have hf := MM.out.1.2
            simp [go_sem, wsO, hc, hf]
          simp only [Act.put]
          show ∀ w', _ → _
          intro w' hw'
          obtain rfl := FL.done hw'
          have HM := Lib.hid (And.intro MM.out.2 q7)
          clear this ca cb AL MM q7 q43 m3 p0 p1 p3 om B g1 g3 g7 g4 g9 z1 z2 z4 z5 t1 t2 t4 z2' b1 b3 r1 r3 o3 gr3 oy mad hs9 hs7 hw'
          go_upto_region 13 with (fail)
          obtain ⟨⟨k1, k2, k3, k4, k5, k6, k7, _, k9⟩, k8⟩ := HM.out
          have oM : OwnM (W3.setCell ⟨wa3.heap.size, 1, none⟩ (.slice vA vn vc)) w.heap.size 46 (.slice tA tn tc) (.slice vA vn vc) (.slice sA sn sc) M := by rw [HMM.out]; exact ⟨k5, k1, k6⟩
          refine wp_gen (fun Wv => OwnM Wv w.heap.size 46 (.slice tA tn tc) (.slice vA vn vc) (.slice sA sn sc) M ∧ Bx Wv (w.heap.size + 1) 85 #[.slice none 0 0, .slice none 0 0, .slice none 0 0] ∧ Bx Wv (w.heap.size + 1 + 1) 35 #[.int .i64 0, .int .i64 0] ∧ Bx Wv wa3.heap.size 85 #[.slice tA tn tc, .slice vA vn vc, .slice sA sn sc] ∧ Bx Wv w5.heap.size 35 #[.int .i64 hs, .int .i64 hg] ∧ Below w.heap.size w Wv) ⟨oM, k3, k8, k4, k9, k7⟩ ?_
          rintro wz ⟨om, g3, g7, g4, g9, B⟩
          clear k1 k2 k3 k4 k5 k6 k7 k8 k9 oM HM
          have START : (FTwoR w w.heap.size (.slice tA tn tc) (.slice vA vn vc) (.slice sA sn sc) M (w.heap.size + 1 + 1) wa3.heap.size w5.heap.size (w.heap.size + 1) hs hg) (fun _ => false) wz.drew := ⟨B.drew, ⟨om.t, om.o, om.s⟩, g3, g7, g4, g9⟩
          haveI : Nonempty (FXN (FTwoR w w.heap.size (.slice tA tn tc) (.slice vA vn vc) (.slice sA sn sc) M (w.heap.size + 1 + 1) wa3.heap.size w5.heap.size (w.heap.size + 1) hs hg)) := ⟨⟨_, _, START⟩⟩
          have ca := fun x : FXN (FTwoR w w.heap.size (.slice tA tn tc) (.slice vA vn vc) (.slice sA sn sc) M (w.heap.size + 1 + 1) wa3.heap.size w5.heap.size (w.heap.size + 1) hs hg) => (by obtain ⟨_, h⟩ := x.h; exact h.2.2.2.2.1 : Bx x.W wa3.heap.size 85 #[.slice tA tn tc, .slice vA vn vc, .slice sA sn sc]).cell
          have cb := fun x : FXN (FTwoR w w.heap.size (.slice tA tn tc) (.slice vA vn vc) (.slice sA sn sc) M (w.heap.size + 1 + 1) wa3.heap.size w5.heap.size (w.heap.size + 1) hs hg) => (by obtain ⟨_, h⟩ := x.h; exact h.2.2.2.2.2 : Bx x.W w5.heap.size 35 #[.int .i64 hs, .int .i64 hg]).cell
          clear om B g3 g7 g4 g9
          refine wp_region_N (FTwoR w w.heap.size (.slice tA tn tc) (.slice vA vn vc) (.slice sA sn sc) M (w.heap.size + 1 + 1) wa3.heap.size w5.heap.size (w.heap.size + 1) hs hg) [2, 3] FTwoR.dep (by kernel_rfl) (by kernel_rfl) (by kernel_rfl) START ?_
          iterate 2 (refine wpN_read FTwoR.dep rfl (by decide) ?_; go_big_quiet_step (fail); refine wpQuiet_nil ?_)
          refine wpN_storeD FTwoR.dep rfl 85 (.tmp 4) (.tmp 63) rfl (by rfl) (p := .pointer (some ⟨w.heap.size + 1, 0, none⟩)) (u := .agg #[.slice tA tn tc, .slice vA vn vc, .slice sA sn sc]) (by rfl) (by rfl) [] (by kernel_rfl) (fun f W hF h0 h1 => ?_) ?_
          · obtain ⟨k0, k1, h2⟩ := FTwoR.store2 hF h0 (by omega) (by omega) (by omega) (by omega)
            refine ⟨_, ?_, h2⟩
            simp [go_sem, k0, k1]
          simp only [Act.put, List.setIfInBounds_toArray, List.set_cons_zero, List.set_cons_succ]
          refine wpN_storeD FTwoR.dep rfl 35 (.tmp 5) (.tmp 64) rfl (by rfl) (p := .pointer (some ⟨w.heap.size + 1 + 1, 0, none⟩)) (u := .agg #[.int .i64 hs, .int .i64 hg]) (by rfl) (by rfl) [] (by kernel_rfl) (fun f W hF h0 h1 => ?_) ?_
          · obtain ⟨k0, k1, h2⟩ := FTwoR.store3 hF h0 (by omega) (by omega) (by omega) (by omega)
            refine ⟨_, ?_, h2⟩
            simp [go_sem, k0, k1]
          simp only [Act.put, List.setIfInBounds_toArray, List.set_cons_zero, List.set_cons_succ]
          iterate 1 (refine wpN_read FTwoR.dep rfl (by decide) ?_; go_big_quiet_step (fail); refine wpQuiet_nil ?_)
          show ∀ w', _ → _
          intro w' hF
          obtain ⟨B, om, g3, g7, _, _⟩ := hF
          have c3 := g3.cell; have c7 := g7.cell
          simp only [if_true] at c3 c7
          clear this ca cb START
          go_wp2
          refine bodyPost_ret (v := .tuple #[.agg #[.slice tA tn tc, .slice vA vn vc, .slice sA sn sc], .agg #[.int .i64 hs, .int .i64 hg], .int .i64 0]) (by simp [results, Try.results43, go_sem, c3, c7]) rfl ?_
          exact ⟨_, _, _, rfl, om, B⟩
    · have hr1 : r = 2 := by rw [hr, allE, if_pos h0, if_neg (by omega)]
      obtain ⟨e1, e2, e3⟩ := hno (by rw [hr1]; decide)
      have hcase : t < 0 ∨ ¬ t < 0 ∧ (NT : Int) ≤ t := by omega
      subst hr1; subst e1; subst e2; subst e3
      clear hr hM hhs hhg hno h0 h hc ht hNT
      rcases hcase with n1 | ⟨n1, n2⟩
      all_goals
        go_enter Try.func43, Try.ntmps43
        go_upto_region 1 with (fail)
        refine wp_gen (fun Wv => Bx Wv (w.heap.size) (85) (#[tv, ov, sv]) ∧ Bx Wv (w.heap.size + 1) (85) (#[.slice none 0 0, .slice none 0 0, .slice none 0 0]) ∧ Bx Wv (w.heap.size + 1 + 1) (35) (#[.int .i64 0, .int .i64 0]) ∧ Below w.heap.size w Wv) ⟨((((Bx.at_ (by simp)).alloc _).alloc _)), (((Bx.at_ (by simp)).alloc _)), ((Bx.at_ (by simp))), ((((Below.refl _ w).alloc (by simp <;> omega) _).alloc (by simp <;> omega) _).alloc (by simp <;> omega) _)⟩ ?_
        rintro wa1 ⟨g1, g3, g7, b⟩
        replace B := B.trans (b.mono B.size); clear b
        have c_g1 := g1.cell; have f_g1 := g1.free; have a_g1 := fun o => (g1.alloc o).cell; have d_g1 := fun o o2 => ((g1.alloc o).alloc o2).cell; have e_g1 := fun o => (g1.alloc o).free
        have c_g3 := g3.cell; have f_g3 := g3.free; have a_g3 := fun o => (g3.alloc o).cell; have d_g3 := fun o o2 => ((g3.alloc o).alloc o2).cell; have e_g3 := fun o => (g3.alloc o).free
        have c_g7 := g7.cell; have f_g7 := g7.free; have a_g7 := fun o => (g7.alloc o).cell; have d_g7 := fun o o2 => ((g7.alloc o).alloc o2).cell; have e_g7 := fun o => (g7.alloc o).free
        go_wp2_with fail
        refine (CT.out _ (H.out.below B)).mono ?_
        rintro e wa2 ⟨rfl, b⟩
        try clear c_g1 f_g1 a_g1 d_g1 e_g1
        replace g1 := g1.below b; have c_g1 := g1.cell; have f_g1 := g1.free; have a_g1 := fun o => (g1.alloc o).cell; have d_g1 := fun o o2 => ((g1.alloc o).alloc o2).cell; have e_g1 := fun o => (g1.alloc o).free; try clear c_g3 f_g3 a_g3 d_g3 e_g3
        replace g3 := g3.below b; have c_g3 := g3.cell; have f_g3 := g3.free; have a_g3 := fun o => (g3.alloc o).cell; have d_g3 := fun o o2 => ((g3.alloc o).alloc o2).cell; have e_g3 := fun o => (g3.alloc o).free; try clear c_g7 f_g7 a_g7 d_g7 e_g7
        replace g7 := g7.below b; have c_g7 := g7.cell; have f_g7 := g7.free; have a_g7 := fun o => (g7.alloc o).cell; have d_g7 := fun o o2 => ((g7.alloc o).alloc o2).cell; have e_g7 := fun o => (g7.alloc o).free; replace B := B.trans (b.mono B.size); clear b
        go_wp2
        refine bodyPost_ret (v := .tuple #[.agg #[.slice none 0 0, .slice none 0 0, .slice none 0 0], .agg #[.int .i64 0, .int .i64 0], .int .i64 2]) (by simp [results, Try.results43, go_sem, c_g3, f_g3, c_g7, f_g7]) rfl ?_
        refine ⟨_, _, _, rfl, OwnM.nil _ _, ?_⟩
        (repeat (first | refine Below.setCell ?_ (by first | exact Nat.le_refl _ | (simp <;> omega)) _ | refine Below.alloc ?_ (by first | exact B.size | (have := B.size; simp <;> omega)) _)); exact B
  · have hr1 : r = c := by rw [hr, allE, if_neg h0, hc]
    have hne : (c != 0) = true := by rw [bne_iff_ne, hc]; exact h0
    obtain ⟨e1, e2, e3⟩ := hno (by rw [hr1, hc]; exact h0)
    subst hr1; subst e1; subst e2; subst e3
    clear hr hM hhs hhg hno h0 h hc hNT
    go_enter Try.func43, Try.ntmps43
    go_upto_region 1 with (fail)
    refine wp_gen (fun Wv => Bx Wv (w.heap.size) (85) (#[tv, ov, sv]) ∧ Bx Wv (w.heap.size + 1) (85) (#[.slice none 0 0, .slice none 0 0, .slice none 0 0]) ∧ Bx Wv (w.heap.size + 1 + 1) (35) (#[.int .i64 0, .int .i64 0]) ∧ Below w.heap.size w Wv) ⟨((((Bx.at_ (by simp)).alloc _).alloc _)), (((Bx.at_ (by simp)).alloc _)), ((Bx.at_ (by simp))), ((((Below.refl _ w).alloc (by simp <;> omega) _).alloc (by simp <;> omega) _).alloc (by simp <;> omega) _)⟩ ?_
    rintro wa1 ⟨g1, g3, g7, b⟩
    replace B := B.trans (b.mono B.size); clear b
    have c_g1 := g1.cell; have f_g1 := g1.free; have a_g1 := fun o => (g1.alloc o).cell; have d_g1 := fun o o2 => ((g1.alloc o).alloc o2).cell; have e_g1 := fun o => (g1.alloc o).free
    have c_g3 := g3.cell; have f_g3 := g3.free; have a_g3 := fun o => (g3.alloc o).cell; have d_g3 := fun o o2 => ((g3.alloc o).alloc o2).cell; have e_g3 := fun o => (g3.alloc o).free
    have c_g7 := g7.cell; have f_g7 := g7.free; have a_g7 := fun o => (g7.alloc o).cell; have d_g7 := fun o o2 => ((g7.alloc o).alloc o2).cell; have e_g7 := fun o => (g7.alloc o).free
    go_wp2_with fail
    refine (CT.out _ (H.out.below B)).mono ?_
    rintro e wa2 ⟨rfl, b⟩
    try clear c_g1 f_g1 a_g1 d_g1 e_g1
    replace g1 := g1.below b; have c_g1 := g1.cell; have f_g1 := g1.free; have a_g1 := fun o => (g1.alloc o).cell; have d_g1 := fun o o2 => ((g1.alloc o).alloc o2).cell; have e_g1 := fun o => (g1.alloc o).free; try clear c_g3 f_g3 a_g3 d_g3 e_g3
    replace g3 := g3.below b; have c_g3 := g3.cell; have f_g3 := g3.free; have a_g3 := fun o => (g3.alloc o).cell; have d_g3 := fun o o2 => ((g3.alloc o).alloc o2).cell; have e_g3 := fun o => (g3.alloc o).free; try clear c_g7 f_g7 a_g7 d_g7 e_g7
    replace g7 := g7.below b; have c_g7 := g7.cell; have f_g7 := g7.free; have a_g7 := fun o => (g7.alloc o).cell; have d_g7 := fun o o2 => ((g7.alloc o).alloc o2).cell; have e_g7 := fun o => (g7.alloc o).free; replace B := B.trans (b.mono B.size); clear b
    go_wp2
    refine bodyPost_ret (v := .tuple #[.agg #[.slice none 0 0, .slice none 0 0, .slice none 0 0], .agg #[.int .i64 0, .int .i64 0], .int .i64 r]) (by simp [results, Try.results43, go_sem, c_g3, f_g3, c_g7, f_g7]) rfl ?_
    refine ⟨_, _, _, rfl, OwnM.nil _ _, ?_⟩
    (repeat (first | refine Below.setCell ?_ (by first | exact Nat.le_refl _ | (simp <;> omega)) _ | refine Below.alloc ?_ (by first | exact B.size | (have := B.size; simp <;> omega)) _)); exact B
theorem Alloc20_any (tv ov sv : Value) (m : Mo) (t : Int) (M : Mo) (r hs hg : Int) (hM : M = allM m t) (hr : r = allE m t) (hhs : hs = allS m t) (hhg : hg = allG m t) (w : World) (h : Mod w tv ov sv m) :
    Calls Try.prog 43 #[.agg #[tv, ov, sv], .int .i64 t] w fun e w' => ∃ t' o' s', e = .returned (.tuple #[.agg #[t', o', s'], .agg #[.int .i64 hs, .int .i64 hg], .int .i64 r]) ∧ Mod w' t' o' s' M ∧ Below w.heap.size w w' :=
  (Alloc20_own tv ov sv m t M r hs hg hM hr hhs hhg w h).mono fun e w' ⟨t', o', s', h1, h2, h3⟩ => ⟨t', o', s', h1, h2.rd, h3⟩
end Go.Proofs.Ytmbokdnndlnjkaa
namespace Go.Proofs.Ytmbokdnndlnjkaa
open Go.RowKit L02 L13 L18 L20
end Go.Proofs.Ytmbokdnndlnjkaa
namespace Go.Proofs.Ytmbokdnndlnjkaa
open Go.RowKit L02 L13 L18 L20
theorem ob_at {m : Mo} {i : Nat} {o : Ob} (h : m.objs[i]? = some o) : ob m i = o := by simp [ob, List.getD_eq_getElem?_getD, h]
end Go.Proofs.Ytmbokdnndlnjkaa
