/- Arrays by value whose cells are whatever: loads, stores, results, the world behind them a variable. No condition; nothing of the program. -/
import Derived.Test.YtgjpohhafmkhcaaCalm
import Derived.Deep.WholeRow
import Derived.Deep.MidRow
import Derived.Deep.Cut
import Derived.Laws.ResultCell
set_option linter.unusedVariables false
set_option linter.unusedSimpArgs false
namespace Go.Proofs.Ytgjpohhafmkhcaa
open Go.RowKit

/-- cells of an array, some of them set -/
def putL (cs : Array Value) : Nat → List Value → Array Value
  | _, [] => cs
  | o, v :: r => putL (cs.setIfInBounds o v) (o + 1) r
theorem putL_size : ∀ (l : List Value) (o : Nat) (cs : Array Value), (putL cs o l).size = cs.size
  | [], _, _ => rfl
  | v :: r, o, cs => by rw [putL, putL_size r]; simp
theorem putL_get : ∀ (l : List Value) (o : Nat) (cs : Array Value) (i : Nat), o + l.length ≤ cs.size → (putL cs o l)[i]? = if o ≤ i ∧ i < o + l.length then l[i - o]? else cs[i]?
  | [], o, cs, i, _ => by simp [putL]; omega
  | v :: r, o, cs, i, h => by
    have h' : o + 1 + r.length ≤ cs.size := by simp at h; omega
    rw [putL, putL_get r (o + 1) _ i (by simpa using h')]
    by_cases h1 : i = o
    · subst h1
      rw [if_neg (by omega), if_pos (by simp)]
      rw [List.length_cons] at h
      rw [Array.getElem?_setIfInBounds, if_pos rfl, if_pos (by omega)]
      simp
    · by_cases h2 : o + 1 ≤ i ∧ i < o + 1 + r.length
      · rw [if_pos h2, if_pos (by simp; omega)]
        rw [show i - o = (i - (o + 1)) + 1 by omega, List.getElem?_cons_succ]
      · rw [if_neg h2, if_neg (by rw [List.length_cons]; omega)]
        rw [Array.getElem?_setIfInBounds_ne (by omega)]
theorem Bx.setCells {w : World} {g : Nat} {t : TypeId} : ∀ (l : List Value) (o : Nat) {cs : Array Value}, Bx w g t cs → Bx (w.setCells g o l) g t (putL cs o l)
  | [], _, _, h => h
  | v :: r, o, cs, h => by
    rw [World.setCells, putL]
    have h1 : Bx (w.setCell ⟨g, o, none⟩ v) g t (cs.setIfInBounds o v) := h.set v
    exact Bx.setCells (w := w.setCell ⟨g, o, none⟩ v) r (o + 1) h1
theorem setCells_far {g g' : Nat} {t : TypeId} {cs : Array Value} (hn : g' ≠ g) : ∀ (l : List Value) (o : Nat) (w : World), Bx w g' t cs → Bx (w.setCells g o l) g' t cs
  | [], _, _, h => h
  | v :: r, o, w, h => by
    rw [World.setCells]
    exact setCells_far hn r (o + 1) _ (h.far (p := ⟨g, o, none⟩) hn v)
theorem cell_far {w : World} {p q : Addr} {u v : Value} (h : w.cell? p = some v) (hn : p.block ≠ q.block) : (w.setCell q u).cell? p = some v := by
  rw [World.cell?_of_block (w := w) (Below.heap_setCell w q u p.block hn)]; exact h
theorem below_setCells {B g : Nat} {w0 : World} (hg : B ≤ g) : ∀ (l : List Value) (o : Nat) (w : World), Below B w0 w → Below B w0 (w.setCells g o l)
  | [], _, _, h => h
  | v :: r, o, w, h => by
    rw [World.setCells]
    exact below_setCells hg r (o + 1) _ (h.setCell (p := ⟨g, o, none⟩) hg v)

/-- a literal of structs -/
theorem lit_rdK {w : World} {cs : Array Value} {e : TypeId} {n sz : Nat} (h : cs.size = n * sz) (hn : n ≤ 1048576) : Rd (w.alloc (.cells cs e)) sz (.slice (some ⟨w.heap.size, 0, none⟩) n n) n cs.toList := by
  refine ⟨_, n, rfl, by omega, by omega, by simpa using h, fun h => (by cases h), fun _ ad h => ?_⟩
  cases h
  refine ⟨rfl, by simp, fun j u hu => ?_⟩
  rw [show (0 + j) = j by omega, cell_of_row _ w.heap.size j cs e (0, 0) (heap_alloc_new w _)]
  simpa using hu

section
variable {P : Program} {ops : Array Oper} {rest : List Oper} {o : Oper} {a : Act} {Q : Exit → Act → World → Prop} {w : World}

/-- what a store into block g leaves alone -/
def Sets (w W : World) (g : Nat) : Prop := (∀ {B : Nat} {w0 : World}, Below B w0 w → B ≤ g → Below B w0 W) ∧ ∀ {g' : Nat} {t : TypeId} {cs : Array Value}, g' ≠ g → Bx w g' t cs → Bx W g' t cs

theorem wpList_storeRow (hgd : o.guard = none) (ty : TypeId) (x y : Operand) (ho : o.op = .store ty x y) (g : Nat) (cells : Array Value) (hx : a.eval x = .pointer (some ⟨g, 0, none⟩)) (hy : a.eval y = .agg cells)
    {t : TypeId} {old : Array Value} (hg : Bx w g t old) (hi : (P.info? ty).map (·.size) = some cells.size) (hold : old.size = cells.size) (h1 : cells.all (·.oneCell') = true)
    (h : ∀ W, Bx W g t cells → Sets w W g → wpList P ops Q rest (a.put o.dst undef) W) : wpList P ops Q (o :: rest) a w :=
  wpList_plain hgd fun _ hK => wp_store_row ty x y ho g cells hx hy t old hg hi hold h1 (hK _ _ (h _ (setRow_heap w g old cells t (0, 0) hg)
    ⟨fun hb hB => below_setRow hb hB cells, fun hn hb => (setRow_other w g _ cells hn).trans hb⟩))

theorem wpList_storePart (hgd : o.guard = none) (ty : TypeId) (x y : Operand) (ho : o.op = .store ty x y) (g q : Nat) (cells : Array Value) (hx : a.eval x = .pointer (some ⟨g, q, none⟩)) (hy : a.eval y = .agg cells)
    {t : TypeId} {old : Array Value} (hg : Bx w g t old) (hi : (P.info? ty).map (·.size) = some cells.size) (hold : q + cells.size ≤ old.size) (h1 : cells.all (·.oneCell') = true)
    (h : ∀ W, Bx W g t (putL old q cells.toList) → Sets w W g → wpList P ops Q rest (a.put o.dst undef) W) : wpList P ops Q (o :: rest) a w := by
  refine wpList_store_mid hgd ty x y ho g q cells hx hy (fun j hj => ?_) hi h1 (h _ (hg.setCells _ _) ⟨fun hb hB => below_setCells hB _ _ _ hb, fun hn hb => setCells_far hn _ _ _ hb⟩)
  refine ⟨?_, hg.free _⟩
  rw [hg.cell, Array.getElem?_eq_getElem (by omega)]; rfl

theorem wpList_storeNew (hgd : o.guard = none) (ty : TypeId) (x y : Operand) (ho : o.op = .store ty x y) {w : World} {n : Nat} {zs : Array Value} (hn : w.heap.size = n) (cells : Array Value) (hx : a.eval x = .pointer (some ⟨n, 0, none⟩)) (hy : a.eval y = .agg cells)
    (hi : (P.info? ty).map (·.size) = some cells.size) (hold : zs.size = cells.size) (h1 : cells.all (·.oneCell') = true)
    (h : ∀ W, Bx W n ty cells → Below w.heap.size w W → wpList P ops Q rest (a.put o.dst undef) W) : wpList P ops Q (o :: rest) a (w.alloc (.cells zs ty)) := by
  subst hn
  refine wpList_storeRow hgd ty x y ho w.heap.size cells hx hy (Bx.new w ty zs) hi hold h1 fun W hW hS => h W hW (hS.1 ((Below.refl _ w).alloc (Nat.le_refl _) _) (Nat.le_refl _))

theorem wpList_loadRow (hgd : o.guard = none) (ty : TypeId) (x : Operand) (ho : o.op = .load ty x) (g : Nat) (hx : a.eval x = .pointer (some ⟨g, 0, none⟩)) {t : TypeId} {cs : Array Value} (hg : Bx w g t cs)
    (d : TypeDesc) (hu : P.underlying ty = some d) (hd : d.isRow = true) (hi : (P.info? ty).map (·.size) = some cs.size)
    (h : wpList P ops Q rest (a.put o.dst (.agg cs)) w) : wpList P ops Q (o :: rest) a w := by
  refine wpList_load_mid hgd ty x ho g 0 hx cs.toList d (fun j v hv => ?_) hu hd (by simpa using hi) (by simpa using h)
  rw [Nat.zero_add, hg.cell]; simpa using hv

/-- does the walk stand at this store, at this load? -/
theorem at_store (ty : TypeId) (x y : Nat) {t : TypeId} {p : String} {e : Array Edge} (h : wpList P ops Q (⟨none, .store ty (.tmp x) (.tmp y), t, p, e, none⟩ :: rest) a w) : wpList P ops Q (⟨none, .store ty (.tmp x) (.tmp y), t, p, e, none⟩ :: rest) a w := h
theorem at_load (d : Nat) (ty : TypeId) (x : Nat) {t : TypeId} {p : String} {e : Array Edge} (h : wpList P ops Q (⟨some d, .load ty (.tmp x), t, p, e, none⟩ :: rest) a w) : wpList P ops Q (⟨some d, .load ty (.tmp x), t, p, e, none⟩ :: rest) a w := h

theorem results_row {fn : Func} {p u : Tmp} {ty : TypeId} (h : fn.results = #[.cell p ty, .tmp u]) (tmps : Array Value) {g : Nat} (hp : tmps.getD p undef = .pointer (some ⟨g, 0, none⟩)) {t : TypeId} {cs : Array Value} (hg : Bx w g t cs)
    (d : TypeDesc) (hu : P.underlying ty = some d) (hd : d.isRow = true) (hi : (P.info? ty).map (·.size) = some cs.size) : (results fn tmps).run P w = .ok (.tuple #[.agg cs, tmps.getD u undef]) w := by
  have hl := run_loadVar_mid (P := P) w g 0 ty cs.toList d (fun j v hv => by rw [Nat.zero_add, hg.cell]; simpa using hv) hu hd (by simpa using hi)
  rw [results_cell_tmp h, hp]
  simp [asAddr, Result.andThen, hl]
end
end Go.Proofs.Ytgjpohhafmkhcaa
