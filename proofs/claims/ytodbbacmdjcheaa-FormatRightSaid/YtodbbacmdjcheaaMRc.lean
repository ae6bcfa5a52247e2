/- Contracts of the functions that the laws 'R' reach, part 3. No condition. -/
import Derived.Test.YtodbbacmdjcheaaMRb
set_option linter.unusedVariables false
set_option linter.unusedSimpArgs false
namespace Go.Proofs.Ytodbbacmdjcheaa
open Go.RowKit
/-- cells of an array, some of them set -/
def putL (cs : Array Value) : Nat → List Value → Array Value
  | _, [] => cs
  | o, v :: r => putL (cs.setIfInBounds o v) (o + 1) r
theorem putL_size : ∀ (l : List Value) (o : Nat) (cs : Array Value), (putL cs o l).size = cs.size
  | [], _, _ => rfl
  | v :: r, o, cs => by rw [putL, putL_size r]; simp
theorem putL_get : ∀ (l : List Value) (o : Nat) (cs : Array Value) (i : Nat), o + l.length ≤ cs.size → (putL cs o l)[i]? = if o ≤ i ∧ i < o + l.length then l[i - o]? else cs[i]?
  | [], o, cs, i, _ => by simp [putL]; omega
  | v :: r, o, cs, i, h => by
    have h' : o + 1 + r.length ≤ cs.size := by simp at h; omega
    rw [putL, putL_get r (o + 1) _ i (by simpa using h')]
    by_cases h1 : i = o
    · subst h1
      rw [if_neg (by omega), if_pos (by simp)]
      rw [List.length_cons] at h
      rw [Array.getElem?_setIfInBounds, if_pos rfl, if_pos (by omega)]
      simp
    · by_cases h2 : o + 1 ≤ i ∧ i < o + 1 + r.length
      · rw [if_pos h2, if_pos (by simp; omega)]
        rw [show i - o = (i - (o + 1)) + 1 by omega, List.getElem?_cons_succ]
      · rw [if_neg h2, if_neg (by rw [List.length_cons]; omega)]
        rw [Array.getElem?_setIfInBounds_ne (by omega)]
theorem Bx.setCells {w : World} {g : Nat} {t : TypeId} : ∀ (l : List Value) (o : Nat) {cs : Array Value}, Bx w g t cs → Bx (w.setCells g o l) g t (putL cs o l)
  | [], _, _, h => h
  | v :: r, o, cs, h => by
    rw [World.setCells, putL]
    have h1 : Bx (w.setCell ⟨g, o, none⟩ v) g t (cs.setIfInBounds o v) := h.set v
    exact Bx.setCells (w := w.setCell ⟨g, o, none⟩ v) r (o + 1) h1
theorem setCells_far {g g' : Nat} {t : TypeId} {cs : Array Value} (hn : g' ≠ g) : ∀ (l : List Value) (o : Nat) (w : World), Bx w g' t cs → Bx (w.setCells g o l) g' t cs
  | [], _, _, h => h
  | v :: r, o, w, h => by
    rw [World.setCells]
    exact setCells_far hn r (o + 1) _ (h.far (p := ⟨g, o, none⟩) hn v)
theorem below_setCells {B g : Nat} {w0 : World} (hg : B ≤ g) : ∀ (l : List Value) (o : Nat) (w : World), Below B w0 w → Below B w0 (w.setCells g o l)
  | [], _, _, h => h
  | v :: r, o, w, h => by
    rw [World.setCells]
    exact below_setCells hg r (o + 1) _ (h.setCell (p := ⟨g, o, none⟩) hg v)
/-- a literal of structs -/
theorem lit_rdK {w : World} {cs : Array Value} {e : TypeId} {n sz : Nat} (h : cs.size = n * sz) (hn : n ≤ 1048576) : Rd (w.alloc (.cells cs e)) sz (.slice (some ⟨w.heap.size, 0, none⟩) n n) n cs.toList := by
  refine ⟨_, n, rfl, by omega, by omega, by simpa using h, fun h => (by cases h), fun _ ad h => ?_⟩
  cases h
  refine ⟨rfl, by simp, fun j u hu => ?_⟩
  rw [show (0 + j) = j by omega, cell_of_row _ w.heap.size j cs e (0, 0) (heap_alloc_new w _)]
  simpa using hu
section
variable {P : Program} {ops : Array Oper} {rest : List Oper} {o : Oper} {a : Act} {Q : Exit → Act → World → Prop} {w : World}
/-- what a store into block g leaves alone -/
def Sets (w W : World) (g : Nat) : Prop := (∀ {B : Nat} {w0 : World}, Below B w0 w → B ≤ g → Below B w0 W) ∧ ∀ {g' : Nat} {t : TypeId} {cs : Array Value}, g' ≠ g → Bx w g' t cs → Bx W g' t cs
theorem wpList_storeRow (hgd : o.guard = none) (ty : TypeId) (x y : Operand) (ho : o.op = .store ty x y) (g : Nat) (cells : Array Value) (hx : a.eval x = .pointer (some ⟨g, 0, none⟩)) (hy : a.eval y = .agg cells)
    {t : TypeId} {old : Array Value} (hg : Bx w g t old) (hi : (P.info? ty).map (·.size) = some cells.size) (hold : old.size = cells.size) (h1 : cells.all (·.oneCell') = true)
    (h : ∀ W, Bx W g t cells → Sets w W g → wpList P ops Q rest (a.put o.dst undef) W) : wpList P ops Q (o :: rest) a w :=
  wpList_plain hgd fun _ hK => wp_store_row ty x y ho g cells hx hy t old hg hi hold h1 (hK _ _ (h _ (setRow_heap w g old cells t (0, 0) hg)
    ⟨fun hb hB => below_setRow hb hB cells, fun hn hb => (setRow_other w g _ cells hn).trans hb⟩))
theorem wpList_storePart (hgd : o.guard = none) (ty : TypeId) (x y : Operand) (ho : o.op = .store ty x y) (g q : Nat) (cells : Array Value) (hx : a.eval x = .pointer (some ⟨g, q, none⟩)) (hy : a.eval y = .agg cells)
    {t : TypeId} {old : Array Value} (hg : Bx w g t old) (hi : (P.info? ty).map (·.size) = some cells.size) (hold : q + cells.size ≤ old.size) (h1 : cells.all (·.oneCell') = true)
    (h : ∀ W, Bx W g t (putL old q cells.toList) → Sets w W g → wpList P ops Q rest (a.put o.dst undef) W) : wpList P ops Q (o :: rest) a w := by
  refine wpList_store_mid hgd ty x y ho g q cells hx hy (fun j hj => ?_) hi h1 (h _ (hg.setCells _ _) ⟨fun hb hB => below_setCells hB _ _ _ hb, fun hn hb => setCells_far hn _ _ _ hb⟩)
  refine ⟨?_, hg.free _⟩
  rw [hg.cell, Array.getElem?_eq_getElem (by omega)]; rfl
theorem wpList_storeNew (hgd : o.guard = none) (ty : TypeId) (x y : Operand) (ho : o.op = .store ty x y) {w : World} {n : Nat} {zs : Array Value} (hn : w.heap.size = n) (cells : Array Value) (hx : a.eval x = .pointer (some ⟨n, 0, none⟩)) (hy : a.eval y = .agg cells)
    (hi : (P.info? ty).map (·.size) = some cells.size) (hold : zs.size = cells.size) (h1 : cells.all (·.oneCell') = true)
    (h : ∀ W, Bx W n ty cells → Below w.heap.size w W → wpList P ops Q rest (a.put o.dst undef) W) : wpList P ops Q (o :: rest) a (w.alloc (.cells zs ty)) := by
  subst hn
  refine wpList_storeRow hgd ty x y ho w.heap.size cells hx hy (Bx.new w ty zs) hi hold h1 fun W hW hS => h W hW (hS.1 ((Below.refl _ w).alloc (Nat.le_refl _) _) (Nat.le_refl _))
theorem wpList_loadRow (hgd : o.guard = none) (ty : TypeId) (x : Operand) (ho : o.op = .load ty x) (g : Nat) (hx : a.eval x = .pointer (some ⟨g, 0, none⟩)) {t : TypeId} {cs : Array Value} (hg : Bx w g t cs)
    (d : TypeDesc) (hu : P.underlying ty = some d) (hd : d.isRow = true) (hi : (P.info? ty).map (·.size) = some cs.size)
    (h : wpList P ops Q rest (a.put o.dst (.agg cs)) w) : wpList P ops Q (o :: rest) a w := by
  refine wpList_load_mid hgd ty x ho g 0 hx cs.toList d (fun j v hv => ?_) hu hd (by simpa using hi) (by simpa using h)
  rw [Nat.zero_add, hg.cell]; simpa using hv
/-- does the walk stand at this store, at this load? -/
theorem at_store (ty : TypeId) (x y : Nat) {t : TypeId} {p : String} {e : Array Edge} (h : wpList P ops Q (⟨none, .store ty (.tmp x) (.tmp y), t, p, e, none⟩ :: rest) a w) : wpList P ops Q (⟨none, .store ty (.tmp x) (.tmp y), t, p, e, none⟩ :: rest) a w := h
theorem at_load (d : Nat) (ty : TypeId) (x : Nat) {t : TypeId} {p : String} {e : Array Edge} (h : wpList P ops Q (⟨some d, .load ty (.tmp x), t, p, e, none⟩ :: rest) a w) : wpList P ops Q (⟨some d, .load ty (.tmp x), t, p, e, none⟩ :: rest) a w := h
theorem results_row {fn : Func} {p u : Tmp} {ty : TypeId} (h : fn.results = #[.cell p ty, .tmp u]) (tmps : Array Value) {g : Nat} (hp : tmps.getD p undef = .pointer (some ⟨g, 0, none⟩)) {t : TypeId} {cs : Array Value} (hg : Bx w g t cs)
    (d : TypeDesc) (hu : P.underlying ty = some d) (hd : d.isRow = true) (hi : (P.info? ty).map (·.size) = some cs.size) : (results fn tmps).run P w = .ok (.tuple #[.agg cs, tmps.getD u undef]) w := by
  have hl := run_loadVar_mid (P := P) w g 0 ty cs.toList d (fun j v hv => by rw [Nat.zero_add, hg.cell]; simpa using hv) hu hd (by simpa using hi)
  rw [results_cell_tmp h, hp]
  simp [asAddr, Result.andThen, hl]
end
end Go.Proofs.Ytodbbacmdjcheaa
namespace Go.Proofs.Ytodbbacmdjcheaa
open Go.RowKit
theorem grown_set (w : World) (p : Addr) (u : Value) : w.grownBy (w.setCell p u) (some p.block) :=
  ⟨rfl, rfl, rfl, by simp [World.setCell], fun k hk hne => Below.heap_setCell w p u k (fun e => hne (by rw [e]))⟩
theorem own_not_bx {w : World} {B e sz n p : Nat} {v : Value} {xs : List Value} {t : TypeId} {cs : Array Value} (h : w.ownsRow B e sz v n xs) (hg : Bx w p t cs) (hne : e ≠ t) : v.ownBlock = none ∨ v.ownBlock ≠ some p := by
  rcases h.2 with ⟨rfl, _⟩ | ⟨g, cap, cur, rfl, _, hgg, _⟩
  · exact .inl rfl
  · refine .inr ?_
    intro he
    simp [Value.ownBlock] at he
    subst he
    rw [Bx, hgg] at hg
    injection hg with hg
    injection hg with _ h2 _
    exact hne h2
theorem own_set {w : World} {B e sz n p i : Nat} {v u : Value} {xs : List Value} {t : TypeId} {cs : Array Value} (h : w.ownsRow B e sz v n xs) (hg : Bx w p t cs) (hne : e ≠ t) : (w.setCell ⟨p, i, none⟩ u).ownsRow B e sz v n xs :=
  World.ownsRow.kept h (grown_set w ⟨p, i, none⟩ u) (own_not_bx h hg hne)
theorem Bx.grown {w w' : World} {g : Nat} {t : TypeId} {cs : Array Value} {row : Option Nat} (h : Bx w g t cs) (hg : w.grownBy w' row) (hne : row = none ∨ row ≠ some g) : Bx w' g t cs := by
  have hl := h.lt
  unfold Bx at *
  rw [hg.block g hl (by
    rcases hne with rfl | h
    · simp
    · exact fun e => h e.symm)]
  exact h
theorem own_fresh {w : World} {B e sz n : Nat} {v : Value} {xs : List Value} (h : w.ownsRow B e sz v n xs) : v.ownBlock = none ∨ v.ownBlock ≠ some w.heap.size := by
  cases hv : v.ownBlock with
  | none => exact .inl rfl
  | some g => exact .inr (fun e => by injection e with e; have := (h.lt g hv).2; omega)
/-- a store below the base of a row -/
theorem own_apart {w : World} {B e sz n p i : Nat} {v u : Value} {xs : List Value} (h : w.ownsRow B e sz v n xs) (hp : p < B) : (w.setCell ⟨p, i, none⟩ u).ownsRow B e sz v n xs := by
  refine World.ownsRow.kept h (grown_set w ⟨p, i, none⟩ u) ?_
  cases hv : v.ownBlock with
  | none => exact .inl rfl
  | some g => exact .inr (fun e => by injection e with e; subst e; have := (h.lt g hv).1; omega)
/-- the blocks from lo to hi are as they were -/
def Mid (lo hi : Nat) (w w' : World) : Prop := ∀ k, lo ≤ k → k < hi → w'.heap[k]? = w.heap[k]?
theorem Mid.refl (lo hi : Nat) (w : World) : Mid lo hi w w := fun _ _ _ => rfl
theorem Mid.set {lo hi : Nat} {w w' : World} (h : Mid lo hi w w') {p : Addr} (hp : p.block < lo ∨ hi ≤ p.block) (u : Value) : Mid lo hi w (w'.setCell p u) := fun k h1 h2 =>
  (Below.heap_setCell w' p u k (by omega)).trans (h k h1 h2)
theorem Mid.grown {lo hi : Nat} {w w' w'' : World} {row : Option Nat} (h : Mid lo hi w w') (hs : hi ≤ w'.heap.size) (hg : w'.grownBy w'' row) (hr : ∀ k, row = some k → k < lo ∨ hi ≤ k) : Mid lo hi w w'' := fun k h1 h2 =>
  (hg.block k (by omega) (fun e => by have := hr k e.symm; omega)).trans (h k h1 h2)
theorem Mid.below {lo hi : Nat} {w w' w'' : World} (h : Mid lo hi w w') (hs : hi ≤ w'.heap.size) (hb : Below w'.heap.size w' w'') : Mid lo hi w w'' := fun k h1 h2 =>
  (hb.block k (by omega)).trans (h k h1 h2)
theorem own_mid {lo e sz n : Nat} {w w' : World} {v : Value} {xs : List Value} (h : w.ownsRow lo e sz v n xs) (hm : Mid lo w.heap.size w w') : w'.ownsRow lo e sz v n xs := by
  refine ⟨h.1, h.2.imp id ?_⟩
  rintro ⟨g, cap, cur, h1, h2, h3, h4⟩
  exact ⟨g, cap, cur, h1, h2, (hm g h2 (Array.getElem?_eq_some_iff.1 h3).1).trans h3, h4⟩
end Go.Proofs.Ytodbbacmdjcheaa
namespace Go.Proofs.Ytodbbacmdjcheaa
open Go.RowKit L02 L05 L06 L19
theorem putW_cut : ∀ (m l : List UInt64) (a : Nat), a + m.length ≤ l.length → putW l a m = l.take a ++ (m ++ l.drop (a + m.length))
  | [], l, a, h => by simp [putW]
  | x :: xs, l, a, h => by
    rw [List.length_cons] at h
    rw [putW, putW_cut xs _ _ (by rw [List.length_set]; omega), List.length_cons]
    rw [List.take_succ_eq_append_getElem (by rw [List.length_set]; omega), List.getElem_set_self, List.take_set_of_le (Nat.le_refl a), List.drop_set_of_lt (by omega), List.append_assoc, List.singleton_append, List.cons_append, show a + 1 + xs.length = a + (xs.length + 1) by omega]
theorem spl_put {l m : List UInt64} {a : Nat} (h : a + m.length ≤ l.length) : splice (l.map u64) a (m.map u64) = (putW l a m).map u64 := by
  rw [putW_cut _ _ _ h]
  unfold splice
  rw [List.map_append, List.map_append, List.map_take, List.map_drop, List.length_map]
set_option maxRecDepth 100000 in
set_option maxHeartbeats 2000000 in
theorem put_any (v sv : Value) (l m : List UInt64) (a B : Nat) (hm : a + m.length ≤ l.length) (w : World) (o : OwnW w B 64 v l) (hs : Rd w 1 sv m.length (m.map u64)) (hB : B ≤ w.heap.size) :
    Calls Try.prog 28 #[v, .int .i64 a, sv] w fun e w' => (∃ u, e = .returned u) ∧ OwnW w' B 64 v (putW l a m) ∧ Below B w w' ∧ w.grownBy w' v.ownBlock := by
  obtain ⟨dv, sl, cut⟩ := own_cutFrom (P := Try.prog) o Try.underlying25 one_u64 (lo := (a : Int)) (by omega) (by omega)
  have sl' : ∀ W, (Instr.sliceAt 25 v (some (.int .i64 a)) none none).run Try.prog W = .ok dv W := sl
  obtain ⟨w', hrun, h2, h3⟩ := run_copy_own (P := Try.prog) (sT := 25) (ty := 3) Try.underlying25 one_u64 o cut hs (one_u64s _)
  clear sl
  have hrun' := Lib.hid hrun; have H2 := Lib.hid h2; have H3 := Lib.hid h3; have HM := Lib.hid hm
  have BB := Lib.hid ((Below.refl B w).grown h3 hB fun k hk => (o.lt k hk).1)
  clear hrun h2 h3 hm o hs cut hB
  go_enter Try.func28, Try.ntmps28
  go_wp2_with fail
  rw [hrun'.out, Result.andThen_ok]
  go_wp2
  refine bodyPost_end (results_none rfl _ _ _) rfl ⟨⟨_, rfl⟩, OwnW.of H2.out ?_, BB.out, H3.out⟩
  have := HM.out
  rw [List.take_of_length_le (by rw [List.length_map]; simp; omega), Int.toNat_natCast, spl_put (by omega)]
end Go.Proofs.Ytodbbacmdjcheaa
namespace Go.Proofs.Ytodbbacmdjcheaa.RF
open Go.RowKit
/-- what the body of a round must leave -/
def rdE (B : Nat) (X : World) (J : World → Prop) : Exit → Act → World → Prop
  | .normal, _, W => KeepsFrom B X W ∧ J W
  | _, _, _ => False
theorem keeps_below {B : Nat} {X Y : World} (h : Below X.heap.size X Y) : KeepsFrom B X Y :=
  ⟨h.size, fun k o _ hk _ => (h.block k (Array.getElem?_eq_some_iff.1 hk).1).trans hk⟩
theorem keeps_set {B : Nat} (X : World) (a : Addr) (u : Value) : KeepsFrom B X (X.setCell a u) := (KeepsOthers.setCell _ _ _).from _
theorem put_below {X : World} {n l : Nat} (o : Obj) (h : n ≤ l) : Below n X (X.putObj l o) :=
  ⟨rfl, rfl, rfl, by simp, fun k hk => World.putObj_heap_other (by omega)⟩
theorem wpIn_rangeE {P : Program} {m : Nat} {g : Operand} {ps : Array Tmp} {assign body : Code} {Q : Exit → Act → World → Prop} {a : Act} {w : World}
    {gf : Nat} {lb : Array Value} (hg : a.eval g = .func (.func gf) #[] lb) (eg : ∀ args w, (callFunc gf args).run P w = .ok (.enter gf args) w)
    (J : Nat → World → Prop) (hJ : ∀ k A B, J k A → Below w.heap.size A B → J k B) (h0 : J 0 w) (N : Nat)
    (encs : Nat → Array Value) (hps : ∀ k, (encs k).size = ps.size) (R : Nat → World → World → Prop)
    (hR : ∀ k A B, J k A → R k A B → KeepsFrom w.heap.size A B)
    (hcall : ∀ (l : Nat) (J' : Nat → World → Prop) (W : World), (∀ k A, J' k A → J k A) → (∀ k A B, J' k A → Below A.heap.size A B → J' k B) →
      (∀ k A, J' k A → k < N → YieldAt Fence.wide (m - 1 - 1) P l (encs k) A fun e W' => e = .returned (.bool true) ∧ J' (k + 1) W') → J' 0 W →
      CallsIn Fence.wide (m - 1) P gf (#[.func (.yield l) #[] #[]] ++ lb) W fun e W' => (∃ v, e = .returned v) ∧ ∃ k A, J' k A ∧ R k A W')
    (hround : ∀ (l k : Nat) (A : World), w.heap.size < l → l < A.heap.size → J k A → k < N →
      assign.wpIn (Fence.wide.inRound l) (m - 1 - 1) P (Exit.then (fun a₁ W₁ => KeepsFrom w.heap.size A W₁ ∧
          ∀ r, body.wpIn (Fence.wide.inRound l) (m - 1 - 1) P (rdE w.heap.size (W₁.putObj l (.loop r)) (J (k + 1))) a₁ (W₁.putObj l (.loop r))) (fun _ _ _ => False))
        { tmps := (ps.zip (encs k)).foldl (fun t (p, v) => t.setIfInBounds p v) a.tmps, defers := [] } A)
    (hdone : ∀ (k : Nat) (A B : World) (r : Loop), J k A → R k A B → w.heap.size + 1 < A.heap.size → B.heap[w.heap.size]? = some (.deferred (some [])) →
      Q .normal { a with defers := { target := .collected w.heap.size, args := #[] } :: a.defers } (B.putObj (w.heap.size + 1) (.loop r))) :
    (Code.rangeFunc g ps assign body).wpIn Fence.wide m P Q a w := by
  refine wpIn_rangeFunc ?_
  intro fn hfn
  rw [show Fence.wide.round = none from rfl]
  obtain ⟨rec, hrec⟩ : ∃ rec : LoopState → Option Code → Loop, rec = fun st pe => { state := st, pending := pe, fn, tmps := a.tmps, params := ps, assign, body, defers := w.heap.size } := ⟨_, rfl⟩
  obtain ⟨W1, hW1⟩ : ∃ W1, (w.alloc (.deferred (some []))).alloc (.loop (rec .ready none)) = W1 := ⟨_, rfl⟩
  have hL1 : W1.heap[w.heap.size + 1]? = some (.loop (rec .ready none)) := by
    rw [← hW1]; have := World.alloc_heap_new (w.alloc (.deferred (some []))) (.loop (rec .ready none)); rwa [World.size_alloc] at this
  have hK1 : W1.heap[w.heap.size]? = some (.deferred (some [])) := by
    rw [← hW1]; exact (Below.heap_alloc _ _ _ (by simp)).trans (World.alloc_heap_new w _)
  have hb1 : Below w.heap.size w W1 := by
    rw [← hW1]; exact ((Below.refl _ w).alloc (Nat.le_refl _) _).alloc (by simp) _
  refine ⟨w.heap.size + 1, [{ target := .collected w.heap.size, args := #[] }], W1, { target := .fn (.func gf) lb, args := #[.func (.yield (w.heap.size + 1)) #[] #[]] }, W1, gf,
    #[.func (.yield (w.heap.size + 1)) #[] #[]] ++ lb, W1, ?_, ?_, ?_, ?_, fun h => by simp [Fence.wide] at h, ?_⟩
  · rw [← hW1, hrec]; exact run_enterLoop_outer _ _ _ _ _
  · simp only [resolve, hg]
    simp [go_sem]
  · intro f' hf'; exact trivial
  · simp [invoke, go_sem, eg]
  · refine (hcall (w.heap.size + 1)
      (fun k W => J k W ∧ W.heap[w.heap.size + 1]? = some (.loop (rec .ready none)) ∧ W.heap[w.heap.size]? = some (.deferred (some []))) W1
      (fun k A h => h.1) ?_ ?_ ⟨hJ 0 w W1 h0 hb1, hL1, hK1⟩).mono ?_
    · rintro k A B ⟨hj, hl, hk⟩ hb
      have hlt := (Array.getElem?_eq_some_iff.1 hl).1
      exact ⟨hJ k A B hj (hb.mono (by omega)), (hb.block _ hlt).trans hl, (hb.block _ (by omega)).trans hk⟩
    · rintro k A ⟨hj, hl, hk⟩ hkN
      have hlt := (Array.getElem?_eq_some_iff.1 hl).1
      have hy := run_yield (P := P) (args := encs k) hl (by rw [hrec]; exact hps k)
      rw [hrec] at hy
      refine ⟨fn, _, assign, body, hy, roundIn_of_wpIn hfn (wpIn_mono (hround (w.heap.size + 1) k A (by omega) hlt hj hkN) ?_)⟩
      clear hy
      rintro e a₁ Wa hp
      cases e with
      | normal =>
        obtain ⟨hkf, hbody⟩ := hp
        have hl' := hkf.same _ _ (by omega) hl rfl
        have hk' := hkf.same _ _ (Nat.le_refl _) hk rfl
        have hlt' : w.heap.size + 1 < Wa.heap.size := (Array.getElem?_eq_some_iff.1 hl').1
        refine ⟨_, run_beginRound hl' (by rw [hrec]), ?_⟩
        have hl2 : (Wa.putObj (w.heap.size + 1) (.loop { rec .ready none with state := .busy })).heap[w.heap.size + 1]? = some (.loop { rec .ready none with state := .busy }) := World.putObj_heap_same hlt'
        have hk2 : (Wa.putObj (w.heap.size + 1) (.loop { rec .ready none with state := .busy })).heap[w.heap.size]? = some (.deferred (some [])) := (World.putObj_heap_other (by omega)).trans hk'
        refine wpIn_mono (hbody _) ?_
        rintro e a3 W3 hp
        cases e with
        | normal =>
          obtain ⟨hk3, hj3⟩ := hp
          have hl3 := hk3.same _ _ (by omega) hl2 rfl
          have hr := run_endRound (P := P) none hl3
          refine ⟨_, _, hr, rfl, hJ _ _ _ hj3 (put_below _ (by omega)), ?_, ?_⟩
          · rw [World.putObj_heap_same (Array.getElem?_eq_some_iff.1 hl3).1, hrec]; rfl
          · exact (World.putObj_heap_other (by omega)).trans (hk3.same _ _ (Nat.le_refl _) hk2 rfl)
        | _ => exact hp.elim
      | _ => exact hp.elim
    · rintro e W2 ⟨⟨v, rfl⟩, k, A, ⟨hj, hl, hk⟩, hr⟩
      have hkf := hR k A W2 hj hr
      have hl' := hkf.same _ _ (by omega) hl rfl
      have := run_endLoop (P := P) hl' (by rw [hrec]; simp)
      rw [hrec] at this
      exact ⟨none, _, this, hdone k A W2 _ hj hr (Array.getElem?_eq_some_iff.1 hl).1 (hkf.same _ _ (Nat.le_refl _) hk rfl)⟩
end Go.Proofs.Ytodbbacmdjcheaa.RF
namespace Go.Proofs.Ytodbbacmdjcheaa
open Go.RowKit
def u8 (x : UInt8) : Value := .int .u8 x.toNat
def Byts (w : World) (v : Value) (l : List UInt8) : Prop := Rd w 1 v l.length (l.map u8)
def OwnB (w : World) (base E : Nat) (v : Value) (l : List UInt8) : Prop := w.ownsRow base E 1 v l.length (l.map u8)
theorem one_u8 : (Try.prog.info? 5).map (·.size) = some 1 := by kernel_rfl
theorem info_u8 : (Try.prog.info? 5).map (fun i => (i.zero, i.size, i.bytes)) = some (some (.int .u8 0), 1, 1) := by kernel_rfl
theorem one_u8s (l : List UInt8) : ∀ u ∈ l.map u8, u.oneCell' = true := by
  intro u hu; obtain ⟨x, _, rfl⟩ := List.mem_map.1 hu; rfl
section
variable {P : Program} {w w' : World} {v : Value} {l : List UInt8} {base E : Nat}
theorem OwnB.rd (h : OwnB w base E v l) : Byts w v l := Rd.of_own h
theorem Byts.below (h : Byts w v l) (hb : Below w.heap.size w w') : Byts w' v l := Rd.below h hb
theorem Byts.alloc (h : Byts w v l) (o : Obj) : Byts (w.alloc o) v l := Rd.alloc h o
theorem OwnB.below (h : OwnB w base E v l) (hb : Below w.heap.size w w') : OwnB w' base E v l := own_below h hb
theorem OwnB.nil (w : World) (base E : Nat) : OwnB w base E (.slice none 0 0) [] := World.ownsRow_nil w base E 1
theorem Byts.nil (w : World) : Byts w (.slice none 0 0) [] := Rd.nil w 1
theorem OwnB.of {n : Nat} {xs : List Value} (h : w.ownsRow base E 1 v n xs) (hx : xs = l.map u8) : OwnB w base E v l := by
  subst hx
  have hn : n = l.length := by have := h.1; simp at this; omega
  subst hn; exact h
theorem Byts.at_ {t e : TypeId} (h : Byts w v l) (ht : P.underlying t = some (.slice e)) (hi : (P.info? e).map (·.size) = some 1) {k : Nat} (hk : k < l.length) :
    ∃ ad x, (∀ W, (Instr.indexAt t v (.int .i64 (k : Int))).run P W = .ok (.pointer (some ad)) W) ∧ w.cell? ad = some (.int .u8 (UInt8.toNat x)) ∧ Hid (l[k]? = some x) :=
  ⟨_, l[k], fun W => Rd.ixN h ht hi hk W, by rw [Nat.mul_one]; exact Rd.cell h (by simp [hk]; rfl), by unfold Hid; simp [hk]⟩
/-- a literal of bytes -/
theorem lit_byts {w : World} {cs : Array Value} {e n m : Nat} (l : List UInt8) (hn : w.heap.size = n) (h : cs.toList = l.map u8) (hm : m = l.length) (hl : l.length ≤ 1048576) : Byts (w.alloc (.cells cs e)) (.slice (some ⟨n, 0, none⟩) m m) l := by
  subst hn
  have hs : cs.size = m := by rw [← Array.length_toList, h]; simp [hm]
  have := lit_rdN (w := w) (e := e) hs (by omega)
  rw [h] at this
  subst hm; exact this
theorem Byts.str {src dst e : TypeId} (h : Byts w v l) (hs : P.underlying src = some (.slice e)) (he : P.underlying e = some (.int .u8)) (hd : P.underlying dst = some .string) :
    (convert src dst v).run P w = .ok (.string ⟨l.toArray⟩) w := by
  rcases Nat.eq_zero_or_pos l.length with h0 | h0
  · obtain ⟨A, c, rfl, h1, h2, h3, h4, h5⟩ := h
    have hl : l = [] := List.eq_nil_of_length_eq_zero h0
    subst hl
    cases A with
    | none => exact run_convert_bytes_nil w src e hs he _ _ dst hd
    | some ad =>
      rw [run_convert_bytes_string w src dst e _ _ c hs he hd]
      have := run_bytesToString (P := P) w ad 0 c [] (by
        have := run_loadCells_list (P := P) w ad [] (fun j v hj => by simp at hj)
        simpa using this)
      simp only [List.foldl_nil] at this
      exact this
  · obtain ⟨b, o, c, rfl, hb, hc, hcell⟩ := Rd.form h h0
    have := run_convert_bytes_arg (P := P) w src e hs he b o l.length c (l.map fun x => (x.toNat : Int)) (by simp) (fun i hi => by
      rw [hcell i (.int .u8 (l[i].toNat : Int)) (by simp [hi]; rfl)]
      simp [List.getD_eq_getElem?_getD, hi]) dst hd
    rw [this]
    unfold strOfNums
    rw [List.map_map]
    congr 3
    have : ((fun n : Int => UInt8.ofNat n.toNat) ∘ fun x : UInt8 => (x.toNat : Int)) = id := by
      funext x; simp
    rw [this, List.map_id]
end
end Go.Proofs.Ytodbbacmdjcheaa
namespace Go.Proofs.Ytodbbacmdjcheaa
open Go.RowKit
theorem wrap_u64 (n : Int) : IntKind.u64.wrap n = n % 18446744073709551616 := by
  simp [IntKind.wrap, IntKind.signed, IntKind.bits]
theorem toNat_lt (a : UInt64) : a.toNat < 18446744073709551616 := a.toNat_lt
theorem bits_xor_u64n {a b : Nat} (ha : a < 18446744073709551616) (hb : b < 18446744073709551616) : bits .xor .u64 (a : Int) (b : Int) = ((a ^^^ b : Nat) : Int) := by
  show IntKind.u64.wrap ((BitVec.ofInt 64 (a : Int) ^^^ BitVec.ofInt 64 (b : Int)).toNat : Int) = _
  rw [BitVec.toNat_xor, BitVec.ofInt_natCast, BitVec.ofInt_natCast, BitVec.toNat_ofNat, BitVec.toNat_ofNat, Nat.mod_eq_of_lt ha, Nat.mod_eq_of_lt hb, wrap_u64]
  have : a ^^^ b < 2 ^ 64 := Nat.xor_lt_two_pow (by omega) (by omega)
  omega
theorem bits_or_u64n {a b : Nat} (ha : a < 18446744073709551616) (hb : b < 18446744073709551616) : bits .or .u64 (a : Int) (b : Int) = ((a ||| b : Nat) : Int) := by
  show IntKind.u64.wrap ((BitVec.ofInt 64 (a : Int) ||| BitVec.ofInt 64 (b : Int)).toNat : Int) = _
  rw [BitVec.toNat_or, BitVec.ofInt_natCast, BitVec.ofInt_natCast, BitVec.toNat_ofNat, BitVec.toNat_ofNat, Nat.mod_eq_of_lt ha, Nat.mod_eq_of_lt hb, wrap_u64]
  have : a ||| b < 2 ^ 64 := Nat.or_lt_two_pow (by omega) (by omega)
  omega
theorem bits_and_u64n {a b : Nat} (ha : a < 18446744073709551616) (hb : b < 18446744073709551616) : bits .and .u64 (a : Int) (b : Int) = ((a &&& b : Nat) : Int) := by
  show IntKind.u64.wrap ((BitVec.ofInt 64 (a : Int) &&& BitVec.ofInt 64 (b : Int)).toNat : Int) = _
  rw [BitVec.toNat_and, BitVec.ofInt_natCast, BitVec.ofInt_natCast, BitVec.toNat_ofNat, BitVec.toNat_ofNat, Nat.mod_eq_of_lt ha, Nat.mod_eq_of_lt hb, wrap_u64]
  have : a &&& b < 2 ^ 64 := Nat.and_lt_two_pow _ (by omega)
  omega
/-- 'or' of parts that lie apart is their sum; 'and' with a mask is a remainder. -/
theorem or_int {a b : Int} (k : Nat) (c : Nat) (h0 : 0 ≤ a) (ha : a < ((2 ^ k : Nat) : Int)) (hb : b = ((2 ^ k * c : Nat) : Int)) (hk : a < 18446744073709551616) (hl : b < 18446744073709551616) : bits .or .u64 a b = a + b := by
  obtain ⟨n, rfl⟩ := Int.eq_ofNat_of_zero_le h0
  subst hb
  have hn : n < 2 ^ k := by exact_mod_cast ha
  rw [bits_or_u64n (by omega) (by omega), Nat.or_comm, ← Nat.two_pow_add_eq_or_of_lt hn]
  omega
theorem and_int {a : Int} (k : Nat) (h0 : 0 ≤ a) (ha : a < 18446744073709551616) (m : Int) (hm : m = ((2 ^ k - 1 : Nat) : Int)) (hl : m < 18446744073709551616) : bits .and .u64 a m = a % ((2 ^ k : Nat) : Int) := by
  obtain ⟨n, rfl⟩ := Int.eq_ofNat_of_zero_le h0
  subst hm
  rw [bits_and_u64n (by omega) (by omega), Nat.and_two_pow_sub_one_eq_mod]
  exact Int.natCast_emod n (2 ^ k)
end Go.Proofs.Ytodbbacmdjcheaa
namespace Go.Proofs.Ytodbbacmdjcheaa
open Go.RowKit L05
/-- The eight bytes of a word, as an array. -/
def bytesV (x : UInt64) : Array Value := #[.int .u8 (x.toNat % 256), .int .u8 (x.toNat / 256 % 256), .int .u8 (x.toNat / 65536 % 256), .int .u8 (x.toNat / 16777216 % 256), .int .u8 (x.toNat / 4294967296 % 256),
  .int .u8 (x.toNat / 1099511627776 % 256), .int .u8 (x.toNat / 281474976710656 % 256), .int .u8 (x.toNat / 72057594037927936)]
set_option maxHeartbeats 1000000 in
theorem Bytes_any (x : UInt64) (w : World) : Calls Try.prog 100 #[.int .u64 x.toNat] w fun e w' => e = .returned (.agg (bytesV x)) ∧ Below w.heap.size w w' := by
  have hx := toNat_lt x
  go_enter Try.func100, Try.ntmps100
  go_wp2
  refine wp_loop_rounds 9 ?_
  iterate 9 (rw [rounds_succ]; go_wp2)
  refine bodyPost_ret (v := .agg (bytesV x)) ?_ rfl ⟨rfl, ?_⟩
  · simp [results, Try.results100, go_sem, bytesV]
  · exact (((Below.refl _ _).alloc (Nat.le_refl _) _).alloc (by simp) _)
theorem bytesV_ix0 (x : UInt64) (W : World) : (Instr.index 181 (.agg (bytesV x)) (.int .i64 ((0 : Nat) : Int))).run Try.prog W = .ok (.int .u8 ((x.toNat : Int) % 256)) W := by kernel_rfl
theorem bytesV_ix1 (x : UInt64) (W : World) : (Instr.index 181 (.agg (bytesV x)) (.int .i64 ((1 : Nat) : Int))).run Try.prog W = .ok (.int .u8 ((x.toNat : Int) / 256 % 256)) W := by kernel_rfl
theorem bytesV_ix2 (x : UInt64) (W : World) : (Instr.index 181 (.agg (bytesV x)) (.int .i64 ((2 : Nat) : Int))).run Try.prog W = .ok (.int .u8 ((x.toNat : Int) / 65536 % 256)) W := by kernel_rfl
theorem bytesV_ix3 (x : UInt64) (W : World) : (Instr.index 181 (.agg (bytesV x)) (.int .i64 ((3 : Nat) : Int))).run Try.prog W = .ok (.int .u8 ((x.toNat : Int) / 16777216 % 256)) W := by kernel_rfl
theorem bytesV_ix4 (x : UInt64) (W : World) : (Instr.index 181 (.agg (bytesV x)) (.int .i64 ((4 : Nat) : Int))).run Try.prog W = .ok (.int .u8 ((x.toNat : Int) / 4294967296 % 256)) W := by kernel_rfl
theorem bytesV_ix5 (x : UInt64) (W : World) : (Instr.index 181 (.agg (bytesV x)) (.int .i64 ((5 : Nat) : Int))).run Try.prog W = .ok (.int .u8 ((x.toNat : Int) / 1099511627776 % 256)) W := by kernel_rfl
theorem bytesV_ix6 (x : UInt64) (W : World) : (Instr.index 181 (.agg (bytesV x)) (.int .i64 ((6 : Nat) : Int))).run Try.prog W = .ok (.int .u8 ((x.toNat : Int) / 281474976710656 % 256)) W := by kernel_rfl
theorem bytesV_ix7 (x : UInt64) (W : World) : (Instr.index 181 (.agg (bytesV x)) (.int .i64 ((7 : Nat) : Int))).run Try.prog W = .ok (.int .u8 ((x.toNat : Int) / 72057594037927936)) W := by kernel_rfl
theorem bytesV_ix (x : UInt64) {k : Nat} (hk : k < 8) (W : World) : (Instr.index 181 (.agg (bytesV x)) (.int .i64 (k : Int))).run Try.prog W = .ok (.int .u8 ((byteAt x k).toNat : Int)) W := by
  rw [byteAt_nat]
  have hx := toNat_lt x
  match k, hk with
  | 0, _ => rw [bytesV_ix0]; exact congrArg (fun n => Result.ok (Value.int .u8 n) W) (by simp only [show (256 : Nat) ^ 0 = 1 from rfl]; omega)
  | 1, _ => rw [bytesV_ix1]; exact congrArg (fun n => Result.ok (Value.int .u8 n) W) (by simp only [show (256 : Nat) ^ 1 = 256 from rfl]; omega)
  | 2, _ => rw [bytesV_ix2]; exact congrArg (fun n => Result.ok (Value.int .u8 n) W) (by simp only [show (256 : Nat) ^ 2 = 65536 from rfl]; omega)
  | 3, _ => rw [bytesV_ix3]; exact congrArg (fun n => Result.ok (Value.int .u8 n) W) (by simp only [show (256 : Nat) ^ 3 = 16777216 from rfl]; omega)
  | 4, _ => rw [bytesV_ix4]; exact congrArg (fun n => Result.ok (Value.int .u8 n) W) (by simp only [show (256 : Nat) ^ 4 = 4294967296 from rfl]; omega)
  | 5, _ => rw [bytesV_ix5]; exact congrArg (fun n => Result.ok (Value.int .u8 n) W) (by simp only [show (256 : Nat) ^ 5 = 1099511627776 from rfl]; omega)
  | 6, _ => rw [bytesV_ix6]; exact congrArg (fun n => Result.ok (Value.int .u8 n) W) (by simp only [show (256 : Nat) ^ 6 = 281474976710656 from rfl]; omega)
  | 7, _ => rw [bytesV_ix7]; exact congrArg (fun n => Result.ok (Value.int .u8 n) W) (by simp only [show (256 : Nat) ^ 7 = 72057594037927936 from rfl]; omega)
theorem fnv_walk (s : UInt64) (q : UInt8) : IntKind.u64.wrap (bits .xor .u64 (s.toNat : Int) (IntKind.u64.wrap (q.toNat : Int)) * 1099511628211) = ((fnv s q).toNat : Int) := by
  have hq := q.toNat_lt
  rw [wrap_u64 (q.toNat : Int), show (q.toNat : Int) % 18446744073709551616 = (q.toNat : Int) by omega, bits_xor_u64n (toNat_lt s) (by omega), wrap_u64, fnv_nat]
  omega
set_option maxHeartbeats 1000000 in
theorem Next_any (s : UInt64) (v : Value) (l : List UInt64) (w : World) (h : Words w v l) (hl : l.length ≤ 2048) :
    Calls Try.prog 89 #[.int .u64 s.toNat, v] w fun e w' => e = .returned (.tuple #[.int .u64 (behind s l).toNat, .int .i64 0]) ∧ Below w.heap.size w w' := by
  have l1 := Rd.len h Try.underlying25
  obtain ⟨N, hN⟩ : ∃ N, N = l.length := ⟨_, rfl⟩
  rw [← hN] at l1 hl
  have HN := Lib.hid hN; have H := Lib.hid h; have B : Below w.heap.size w w := Below.refl _ _
  clear hN h
  go_enter Try.func89, Try.ntmps89
  go_wp2
  go_loopw [0, 15] (fun st i wr => ∃ k : Nat, k ≤ N ∧ i = .int .i64 k ∧ st = .int .u64 (behind s (l.take k)).toNat ∧ Below w.heap.size w wr) (fun _ i _ => N - (intOf i).toNat)
  case atStart => exact ⟨0, Nat.zero_le _, rfl, rfl, B⟩
  case round =>
    obtain ⟨k, hk, rfl, rfl, hbel⟩ := hrel
    by_cases hlt : k < N
    · obtain ⟨ad, x, ia, ca, hx⟩ := (H.out.below hbel).at_ Try.underlying25 one_u64 (k := k) (by have := HN.out; omega)
      have HB := Lib.hid hbel; clear hbel
      go_wp2_with fail
      refine (Bytes_any _ _).mono ?_
      rintro e w2 ⟨rfl, b⟩
      have B2 := HB.out.trans (b.mono HB.out.size)
      have HB2 := Lib.hid B2; clear b B2
      obtain ⟨s0, hs0⟩ : ∃ s0, s0 = behind s (l.take k) := ⟨_, rfl⟩
      rw [← hs0]
      have HS := Lib.hid hs0; clear hs0
      obtain ⟨V, hV⟩ : ∃ V, V = bytesV x := ⟨_, rfl⟩
      rw [← hV]
      have HV := Lib.hid hV; clear hV
      go_wp2
      go_loop [0, 21] (fun st j => ∃ m : Nat, m ≤ 8 ∧ j = .int .i64 m ∧ st = .int .u64 (wordTo s0 x m).toNat) (fun _ j => 8 - (intOf j).toNat)
      case atStart => exact ⟨0, by omega, rfl, rfl⟩
      case round =>
        obtain ⟨m, hm, rfl, rfl⟩ := hrel
        by_cases hm8 : m < 8
        · have hix := bytesV_ix x hm8
          rw [← HV.out] at hix
          obtain ⟨q, hq⟩ : ∃ q, q = byteAt x m := ⟨_, rfl⟩
          rw [← hq] at hix
          obtain ⟨s1, hs1⟩ : ∃ s1, s1 = wordTo s0 x m := ⟨_, rfl⟩
          rw [← hs1]
          have hstep : wordTo s0 x (m + 1) = fnv s1 q := by rw [wordTo, hs1, hq]
          have HST := Lib.hid hstep; clear hstep hs1 hq
          go_wp2
          go_roundw
          case rel => exact ⟨m + 1, by omega, by go_num, by rw [HST.out, fnv_walk]⟩
          case measure => simp [intOf]; omega
        · obtain rfl : m = 8 := by omega
          go_wp2
          go_roundw
          case rel => exact ⟨k + 1, by omega, by go_num, by rw [behind_take hx.out, ← HS.out]; rfl, HB2.out⟩
          case measure => simp [intOf]; omega
    · obtain rfl : k = N := by omega
      have HB := Lib.hid hbel; clear hbel
      go_wp2
      go_ret2
      refine ⟨by rw [HN.out, List.take_length]; rfl, HB.out⟩
theorem Of_any (v : Value) (l : List UInt64) (w : World) (h : Words w v l) (hl : l.length ≤ 2048) :
    Calls Try.prog 67 #[v] w fun e w' => e = .returned (.tuple #[.int .u64 (sum l).toNat, .int .i64 0]) ∧ Below w.heap.size w w' := by
  have hN := Next_any first v l w h hl
  rw [first_nat] at hN
  have HN := Lib.hid hN; clear hN
  obtain ⟨S, hS⟩ : ∃ S, S = sum l := ⟨_, rfl⟩
  rw [← hS]
  have HS := Lib.hid hS; clear hS
  go_enter Try.func67, Try.ntmps67
  go_wp2_with fail
  refine (HN.out).mono ?_
  rw [show behind first l = S from HS.out.symm]
  rintro e w' ⟨rfl, b⟩
  go_wp2
  go_ret2
  exact ⟨rfl, b⟩
end Go.Proofs.Ytodbbacmdjcheaa
namespace Go.Proofs.Ytodbbacmdjcheaa
open Go.RowKit L02 L05 L13
set_option maxHeartbeats 600000 in
theorem KCheck_any (v : Value) (l : List UInt8) (r : Int) (hr : r = kErr l) (w : World) (h : Byts w v l) : Calls Try.prog 66 #[v] w fun e w' => e = .returned (.int .i64 r) ∧ w = w' := by
  have l1 := Rd.len h Try.underlying69
  obtain ⟨N, hN⟩ : ∃ N, N = l.length := ⟨_, rfl⟩
  rw [← hN] at l1
  have HN := Lib.hid hN; have H := Lib.hid h; have HR := Lib.hid hr; clear hN h hr
  by_cases hbig : 8 < N
  · go_enter Try.func66, Try.ntmps66
    go_wp2
    go_ret
    exact ⟨ret_int (by rw [HR.out, kErr_many (by have := HN.out; omega)]), rfl⟩
  · have hs : N ≤ 8 := by omega
    clear hbig
    go_enter Try.func66, Try.ntmps66
    go_wp2
    go_loop [10] (fun i => ∃ k : Nat, k ≤ N ∧ i = .int .i64 k ∧ Hid (∀ x ∈ l.take k, 1 ≤ x.toNat ∧ x.toNat ≤ 3)) (fun i => N - (intOf i).toNat)
    case atStart => exact ⟨0, Nat.zero_le _, rfl, Lib.hid (by simp)⟩
    case round =>
      obtain ⟨k, hk, rfl, hh⟩ := hrel
      by_cases hlt : k < N
      · obtain ⟨ad, x, ia, ca, hx⟩ := H.out.at_ (P := Try.prog) Try.underlying69 one_u8 (k := k) (by have := HN.out; omega)
        by_cases hg : 1 ≤ x.toNat ∧ x.toNat ≤ 3
        · obtain ⟨h1, h2⟩ := hg
          go_wp2
          go_round
          case rel =>
            refine ⟨k + 1, by omega, by go_num, Lib.hid ?_⟩
            intro y hy
            rw [List.take_add_one, hx.out] at hy
            rcases List.mem_append.1 hy with hy | hy
            · exact hh.out y hy
            · simp at hy; subst hy; exact ⟨h1, h2⟩
          case measure => simp [intOf]; omega
        · have hcase : x.toNat < 1 ∨ 1 ≤ x.toNat ∧ 3 < x.toNat := by omega
          have hb := kErr_bad (by have := HN.out; omega) hx.out hg
          have HB := Lib.hid hb; clear hb hg
          rcases hcase with h1 | ⟨h1, h2⟩
          all_goals
            go_wp2
            go_ret
            exact ⟨ret_int (by rw [HR.out, HB.out]), rfl⟩
      · obtain rfl : k = N := by omega
        go_wp2
        go_ret
        refine ⟨ret_int ?_, rfl⟩
        rw [HR.out, kErr_of (by have := HN.out; omega)]
        have := hh.out
        rw [List.take_of_length_le (by have := HN.out; omega)] at this
        exact this
set_option maxHeartbeats 600000 in
theorem KCheckR_any (v : Value) (l : List UInt8) (r : Int) (hr : r = kErr l) (w : World) (h : Byts w v l) : Calls Try.prog 38 #[v] w fun e w' => e = .returned (.int .i64 r) ∧ w = w' := by
  have l1 := Rd.len h Try.underlying69
  obtain ⟨N, hN⟩ : ∃ N, N = l.length := ⟨_, rfl⟩
  rw [← hN] at l1
  have HN := Lib.hid hN; have H := Lib.hid h; have HR := Lib.hid hr; clear hN h hr
  by_cases hbig : 8 < N
  · go_enter Try.func38, Try.ntmps38
    go_wp2
    go_ret
    exact ⟨ret_int (by rw [HR.out, kErr_many (by have := HN.out; omega)]), rfl⟩
  · have hs : N ≤ 8 := by omega
    clear hbig
    go_enter Try.func38, Try.ntmps38
    go_wp2
    go_loop [3] (fun i => ∃ k : Nat, k ≤ N ∧ i = .int .i64 k ∧ Hid (∀ x ∈ l.take k, 1 ≤ x.toNat ∧ x.toNat ≤ 3)) (fun i => N - (intOf i).toNat)
    case atStart => exact ⟨0, Nat.zero_le _, rfl, Lib.hid (by simp)⟩
    case round =>
      obtain ⟨k, hk, rfl, hh⟩ := hrel
      by_cases hlt : k < N
      · obtain ⟨ad, x, ia, ca, hx⟩ := H.out.at_ (P := Try.prog) Try.underlying69 one_u8 (k := k) (by have := HN.out; omega)
        by_cases hg : 1 ≤ x.toNat ∧ x.toNat ≤ 3
        · obtain ⟨h1, h2⟩ := hg
          have e0 : ((x.toNat : Int) == 0) = false := by rw [beq_eq_false_iff_ne]; omega
          go_wp2
          go_round
          case rel =>
            refine ⟨k + 1, by omega, by go_num, Lib.hid ?_⟩
            intro y hy
            rw [List.take_add_one, hx.out] at hy
            rcases List.mem_append.1 hy with hy | hy
            · exact hh.out y hy
            · simp at hy; subst hy; exact ⟨h1, h2⟩
          case measure => simp [intOf]; omega
        · have hcase : ((x.toNat : Int) == 0) = true ∨ ((x.toNat : Int) == 0) = false ∧ 3 < x.toNat := by
            by_cases h0 : x.toNat = 0
            · exact .inl (by rw [beq_iff_eq]; omega)
            · exact .inr ⟨by rw [beq_eq_false_iff_ne]; omega, by omega⟩
          have hb := kErr_bad (by have := HN.out; omega) hx.out hg
          have HB := Lib.hid hb; clear hb hg
          rcases hcase with h1 | ⟨h1, h2⟩
          all_goals
            go_wp2
            go_ret
            exact ⟨ret_int (by rw [HR.out, HB.out]), rfl⟩
      · obtain rfl : k = N := by omega
        go_wp2
        go_ret
        refine ⟨ret_int ?_, rfl⟩
        rw [HR.out, kErr_of (by have := HN.out; omega)]
        have := hh.out
        rw [List.take_of_length_le (by have := HN.out; omega)] at this
        exact this
theorem kErr_len {l : List UInt8} (h : kErr l = 0) : l.length ≤ 8 := (kErr_ok h).1
set_option maxHeartbeats 600000 in
theorem KSize_any (v : Value) (l : List UInt8) (n r : Int) (hn : n = kSize l) (hr : r = kErr l) (w : World) (h : Byts w v l) : Calls Try.prog 47 #[v] w fun e w' => e = .returned (.tuple #[.int .i64 n, .int .i64 r]) ∧ w = w' := by
  have l1 := Rd.len h Try.underlying69
  obtain ⟨N, hN⟩ : ∃ N, N = l.length := ⟨_, rfl⟩
  rw [← hN] at l1
  have CT := fun w h => KCheck_any v l r hr w h
  have HC := Lib.hid CT; have H := Lib.hid h; clear CT h
  by_cases h0 : kErr l = 0
  · have hs : N ≤ 8 := by rw [hN]; exact kErr_len h0
    have hk : n = 2 + ((N + 1) / 2 * 2 : Nat) := by rw [hn, kSize, if_pos h0, hN]
    rw [h0] at hr
    have HK := Lib.hid hk
    subst hr
    clear hn h0 hN hk
    go_enter Try.func47, Try.ntmps47
    go_wp2_with fail
    refine (HC.out _ H.out).mono ?_
    rintro e w' ⟨rfl, rfl⟩
    go_wp2
    go_ret2
    exact ⟨by rw [HK.out]; exact congrArg (fun z => Ending.returned (.tuple #[.int .i64 z, .int .i64 0])) (by omega), rfl⟩
  · have hne : (r != 0) = true := by rw [bne_iff_ne, hr]; exact h0
    have hk : n = 0 := by rw [hn, kSize, if_neg h0]
    subst hk
    clear hn h0 hN hr
    go_enter Try.func47, Try.ntmps47
    go_wp2_with fail
    refine (HC.out _ H.out).mono ?_
    rintro e w' ⟨rfl, rfl⟩
    go_wp2
    go_ret2
    exact ⟨rfl, rfl⟩
end Go.Proofs.Ytodbbacmdjcheaa

namespace Go.Proofs.Ytodbbacmdjcheaa
open Go.RowKit L02 L05 L13
theorem Of_r (v : Value) (l : List UInt64) (x : UInt64) (hx : x = sum l) (w : World) (h : Words w v l) (hl : l.length ≤ 2048) :
    Calls Try.prog 67 #[v] w fun e w' => e = .returned (.tuple #[.int .u64 x.toNat, .int .i64 0]) ∧ Below w.heap.size w w' := by
  subst hx; exact Of_any v l w h hl
theorem lit_word {w : World} {e n : Nat} (x : UInt64) (hn : w.heap.size = n) : Words (w.alloc (.cells #[.int .u64 x.toNat] e)) (.slice (some ⟨n, 0, none⟩) 1 1) [x] := by
  subst hn; exact lit_words [x] rfl rfl (by simp)
theorem or_digit {l : List UInt8} {k z N : Nat} {x : UInt8} (h0 : kErr l = 0) (hN : N = l.length) (hx : l[k]? = some x) (hz : z = fN (l.take k) * 256 + N) :
    bits .or .u64 (z : Int) (IntKind.u64.wrap ((x.toNat : Int) * 2 ^ (8 + 2 * k))) = ((fN (l.take (k + 1)) * 256 + N : Nat) : Int) := by
  obtain ⟨h1, h2⟩ := kErr_ok h0
  have hk : k < l.length := (List.getElem?_eq_some_iff.1 hx).1
  have hlt := fN_lt (l.take k) fun y hy => (h2 y (List.mem_of_mem_take hy)).2
  rw [List.length_take, Nat.min_eq_left (by omega)] at hlt
  have e4 : (2 : Nat) ^ (8 + 2 * k) = 4 ^ k * 256 := by rw [Nat.pow_add, Nat.pow_mul, Nat.mul_comm]
  have hp : 4 ^ k ≤ 4 ^ 8 := Nat.pow_le_pow_right (by omega) (by omega)
  have hx3 := (h2 x (List.mem_of_getElem? hx)).2
  have e1 : ((x.toNat : Int) * 2 ^ (8 + 2 * k)) = ((2 ^ (8 + 2 * k) * x.toNat : Nat) : Int) := by
    rw [Int.natCast_mul, Int.natCast_pow, Int.mul_comm]; rfl
  have hb : 2 ^ (8 + 2 * k) * x.toNat ≤ 4 ^ 8 * 256 * 3 := by
    rw [e4]; exact Nat.mul_le_mul (Nat.mul_le_mul_right _ hp) hx3
  simp only [show (4 : Nat) ^ 8 = 65536 from rfl] at hb hp
  have hzl : z < 2 ^ (8 + 2 * k) := by rw [e4]; omega
  have ew : IntKind.u64.wrap ((2 ^ (8 + 2 * k) * x.toNat : Nat) : Int) = ((2 ^ (8 + 2 * k) * x.toNat : Nat) : Int) := by
    rw [wrap_u64]
    generalize 2 ^ (8 + 2 * k) * x.toNat = q at hb
    omega
  rw [e1, ew, or_int (8 + 2 * k) x.toNat (by omega) (by exact_mod_cast hzl) rfl (by omega) (by generalize 2 ^ (8 + 2 * k) * x.toNat = q at hb; omega)]
  rw [fN_take hx, hz, e4]
  have : 4 ^ k * 256 * x.toNat = x.toNat * 4 ^ k * 256 := by rw [Nat.mul_comm, Nat.mul_assoc]
  omega
set_option maxHeartbeats 1000000 in
theorem KWrite_any (v : Value) (l : List UInt8) (a b : UInt64) (r : Int) (ha : a = w0 l) (hb : b = w1 l) (hr : r = kErr l) (w : World) (h : Byts w v l) :
    Calls Try.prog 34 #[v] w fun e w' => e = .returned (.tuple #[.agg #[.int .u64 a.toNat, .int .u64 b.toNat], .int .i64 r]) ∧ Below w.heap.size w w' := by
  have B : Below w.heap.size w w := Below.refl _ _
  have l1 := Rd.len h Try.underlying69
  obtain ⟨N, hN⟩ : ∃ N, N = l.length := ⟨_, rfl⟩
  rw [← hN] at l1
  have CT := fun w h => KCheck_any v l r hr w h
  have HC := Lib.hid CT; have H := Lib.hid h; clear CT h
  by_cases h0 : kErr l = 0
  · have hs : N ≤ 8 := by rw [hN]; exact kErr_len h0
    rw [h0] at hr
    subst hr
    have HN := Lib.hid hN; have H0 := Lib.hid h0
    have an : a.toNat = firstN l := by rw [ha]; exact w0_nat h0
    have hb' : b = sum [a] := by rw [hb, w1, if_pos h0, ha]
    have HAN := Lib.hid an; have HB := Lib.hid hb'
    clear hN h0 ha hb an hb'
    go_enter Try.func34, Try.ntmps34
    go_upto_region 1 with (fail)
    refine wp_gen (fun Wv => Bx Wv (w.heap.size) (76) (#[.int .u64 0, .int .u64 0]) ∧ Below w.heap.size w Wv) ⟨((Bx.at_ (by simp))), ((Below.refl _ w).alloc (by simp <;> omega) _)⟩ ?_
    rintro w' ⟨g2, b⟩
    replace B := B.trans (b.mono B.size); clear b
    have c_g2 := g2.cell; have f_g2 := g2.free; have a_g2 := fun o => (g2.alloc o).cell; have d_g2 := fun o o2 => ((g2.alloc o).alloc o2).cell; have e_g2 := fun o => (g2.alloc o).free
    go_wp2_with fail
    refine (HC.out _ (H.out.below B)).mono ?_
    rintro e w2 ⟨rfl, rfl⟩
    obtain ⟨w3, hw3⟩ : ∃ w3, w3 = w' := ⟨_, rfl⟩
    subst hw3
    go_wp2
    have HG := Lib.hid g2; have HBB := Lib.hid B; have HL := Lib.hid (H.out.below B)
    clear c_g2 f_g2 a_g2 d_g2 e_g2 g2 B
    go_loop [5, 21] (fun y i => ∃ k z : Nat, k ≤ N ∧ i = .int .i64 k ∧ y = .int .u64 (z : Int) ∧ Hid (z = fN (l.take k) * 256 + N)) (fun _ i => N - (intOf i).toNat)
    case atStart => exact ⟨0, N, Nat.zero_le _, rfl, by simp, Lib.hid (by simp [fN])⟩
    case round =>
      obtain ⟨k, z, hk, rfl, rfl, hz⟩ := hrel
      by_cases hlt : k < N
      · obtain ⟨ad, x, ia, ca, hx⟩ := HL.out.at_ (P := Try.prog) Try.underlying69 one_u8 (k := k) (by have := HN.out; omega)
        have hxl := x.toNat_lt
        go_wp2
        refine ⟨⟨k + 1, fN (l.take (k + 1)) * 256 + N, by omega, by go_num, ?_, Lib.hid rfl⟩, ?_⟩
        · rw [or_digit H0.out HN.out hx.out hz.out]
        · simp [intOf]; omega
      · obtain rfl : k = N := by omega
        have hza : z = a.toNat := by rw [hz.out, HAN.out, firstN, HN.out, List.take_length]
        subst hza
        have OT := fun v w h => Of_r v [a] b HB.out w h (by simp)
        have HO := Lib.hid OT; clear OT
        go_wp2_with fail
        refine (HO.out _ _ (lit_word a rfl)).mono ?_
        rintro e w4 ⟨rfl, bb⟩
        have g2 := HG.out.below ((Below.refl _ _).alloc (Nat.le_refl _) (.cells #[.int .u64 a.toNat] 64))
        replace g2 := g2.below bb
        have B := (HBB.out.alloc HBB.out.size (.cells #[.int .u64 a.toNat] 64)).trans (bb.mono (Nat.le_trans HBB.out.size (by simp)))
        have k2 := g2.cell; have l2 := g2.free
        clear bb g2
        go_wp2
        refine bodyPost_ret (v := .tuple #[.agg #[.int .u64 a.toNat, .int .u64 b.toNat], .int .i64 0]) (by simp [results, Try.results34, go_sem, k2, l2]) rfl ⟨rfl, ?_⟩
        (repeat (first | refine Below.setCell ?_ (by first | exact Nat.le_refl _ | (simp <;> omega)) _ | refine Below.alloc ?_ (by first | exact B.size | (have := B.size; simp <;> omega)) _)); exact B
  · have hne : (r != 0) = true := by rw [bne_iff_ne, hr]; exact h0
    have ha0 : a = 0 := by rw [ha, w0, if_neg h0]
    have hb0 : b = 0 := by rw [hb, w1, if_neg h0]
    subst ha0 hb0
    clear ha hb hr h0 hN
    go_enter Try.func34, Try.ntmps34
    go_upto_region 1 with (fail)
    refine wp_gen (fun Wv => Bx Wv (w.heap.size) (76) (#[.int .u64 0, .int .u64 0]) ∧ Below w.heap.size w Wv) ⟨((Bx.at_ (by simp))), ((Below.refl _ w).alloc (by simp <;> omega) _)⟩ ?_
    rintro w' ⟨g2, b⟩
    replace B := B.trans (b.mono B.size); clear b
    have c_g2 := g2.cell; have f_g2 := g2.free; have a_g2 := fun o => (g2.alloc o).cell; have d_g2 := fun o o2 => ((g2.alloc o).alloc o2).cell; have e_g2 := fun o => (g2.alloc o).free
    go_wp2_with fail
    refine (HC.out _ (H.out.below B)).mono ?_
    rintro e w2 ⟨rfl, rfl⟩
    go_wp2
    refine bodyPost_ret (v := .tuple #[.agg #[.int .u64 0, .int .u64 0], .int .i64 r]) (by simp [results, Try.results34, go_sem, c_g2, f_g2, a_g2, e_g2]) rfl ?_
    refine ⟨rfl, ?_⟩
    (repeat (first | refine Below.setCell ?_ (by first | exact Nat.le_refl _ | (simp <;> omega)) _ | refine Below.alloc ?_ (by first | exact B.size | (have := B.size; simp <;> omega)) _)); exact B
end Go.Proofs.Ytodbbacmdjcheaa
namespace Go.Proofs.Ytodbbacmdjcheaa
open Go.RowKit
section
variable {P : Program}
theorem run_eqItems_words (d : Nat) {e : TypeId} (he : P.underlying e = some (.int .u64)) (hp : ∀ (X : Array Value) (j : Nat) (u : Value) (w : World), X[j]? = some u → (part e X j).run P w = .ok u w) :
    ∀ (m k : Nat) (l1 l2 : List UInt64) (w : World), k + m ≤ l1.length → k + m ≤ l2.length →
    (Op.eqItems (d + 1) e 1 (l1.map u64).toArray (l2.map u64).toArray (List.range' k m)).run P w = .ok (decide ((l1.drop k).take m = (l2.drop k).take m)) w
  | 0, k, l1, l2, w, _, _ => by simp [Op.eqItems]
  | m + 1, k, l1, l2, w, h1, h2 => by
    have e1 : (l1.map u64).toArray[k]? = some (u64 (l1[k]'(by omega))) := by simp [show k < l1.length by omega]
    have e2 : (l2.map u64).toArray[k]? = some (u64 (l2[k]'(by omega))) := by simp [show k < l2.length by omega]
    have ih := run_eqItems_words d he hp m (k + 1) l1 l2 w (by omega) (by omega)
    rw [List.range'_succ]
    simp only [Op.eqItems, Nat.mul_one, Sem.run_bind, hp _ _ _ _ e1, hp _ _ _ _ e2, Result.andThen_ok]
    rw [show (Op.equalIn (d + 1) e (u64 (l1[k]'(by omega))) (u64 (l2[k]'(by omega)))).run P w = .ok (((l1[k]'(by omega)).toNat : Int) == ((l2[k]'(by omega)).toNat : Int)) w from run_equalIn_int w d e .u64 .u64 _ _ he]
    rw [List.drop_eq_getElem_cons (show k < l1.length by omega), List.drop_eq_getElem_cons (show k < l2.length by omega), List.take_succ_cons, List.take_succ_cons]
    by_cases hx : l1[k]'(by omega) = l2[k]'(by omega)
    · have t1 : (((l1[k]'(by omega)).toNat : Int) == ((l2[k]'(by omega)).toNat : Int)) = true := by rw [hx]; simp
      rw [t1]
      simp only [Result.andThen_ok, Bool.not_true, Bool.false_eq_true, if_false]
      rw [ih, hx]
      simp
    · have t1 : (((l1[k]'(by omega)).toNat : Int) == ((l2[k]'(by omega)).toNat : Int)) = false := by
        rw [beq_eq_false_iff_ne]; intro h; exact hx (UInt64.toNat_inj.1 (by omega))
      rw [t1]
      simp [hx]
theorem run_neq_words {t e : TypeId} {n : Nat} (ht : P.underlying t = some (.array n e)) (hi : (P.info? e).isSome = true) (he : P.underlying e = some (.int .u64)) (hc : P.cellsOf e = 1)
    (hp : ∀ (X : Array Value) (j : Nat) (u : Value) (w : World), X[j]? = some u → (part e X j).run P w = .ok u w)
    (l1 l2 : List UInt64) (h1 : l1.length = n) (h2 : l2.length = n) (w : World) : (binOp .neq t (.agg (l1.map u64).toArray) (.agg (l2.map u64).toArray)).run P w = .ok (.bool (!decide (l1 = l2))) w := by
  obtain ⟨i, hi⟩ := Option.isSome_iff_exists.1 hi
  rw [run_neq_struct, run_equalIn_array (w := w) 9999 _ _ ht hi, hc, List.range_eq_range', run_eqItems_words 9998 he hp n 0 l1 l2 w (by omega) (by omega)]
  simp only [List.drop_zero, Result.andThen_ok]
  rw [List.take_of_length_le (by omega), List.take_of_length_le (by omega)]
end
end Go.Proofs.Ytodbbacmdjcheaa
namespace Go.Proofs.Ytodbbacmdjcheaa
open Go.RowKit L02 L05 L13
theorem pair_neq (a b c d : UInt64) (r : Bool) (hr : r = !decide ([a, b] = [c, d])) (W : World) : (binOp .neq 76 (.agg #[.int .u64 a.toNat, .int .u64 b.toNat]) (.agg #[.int .u64 c.toNat, .int .u64 d.toNat])).run Try.prog W = .ok (.bool r) W := by
  subst hr
  exact run_neq_words (P := Try.prog) (n := 2) Try.underlying76 (by kernel_rfl) Try.underlying64 (by kernel_rfl) (fun X j u W h => run_part_plain W (by kernel_rfl) h) [a, b] [c, d] rfl rfl W
theorem lit_u8 {w : World} {e n : Nat} (x : Int) (q : UInt8) (hq : x = q.toNat) (hn : w.heap.size = n) : Rd (w.alloc (.cells #[.int .u8 x] e)) 1 (.slice (some ⟨n, 0, none⟩) 1 1) 1 ([q].map u8) := by
  subst hn hq; exact lit_rd
theorem one_u8' (q : UInt8) : ∀ u ∈ [q].map u8, u.oneCell' = true := one_u8s [q]
set_option maxHeartbeats 2000000 in
theorem KRead_any (a b : UInt64) (L : List UInt8) (r : Int) (hL : L = rdL a b) (hr : r = rdE a b) (w : World) :
    Calls Try.prog 72 #[.int .u64 a.toNat, .int .u64 b.toNat] w fun e w' => ∃ x, e = .returned (.tuple #[x, .int .i64 r]) ∧ OwnB w' w.heap.size 5 x L ∧ Below w.heap.size w w' := by
  have B : Below w.heap.size w w := Below.refl _ _
  have hal := toNat_lt a
  have e1 := and_int (a := (a.toNat : Int)) 8 (by omega) (by omega) 255 (by decide) (by omega)
  obtain ⟨n, hn⟩ : ∃ n, n = nOf a := ⟨_, rfl⟩
  have e1' : bits .and .u64 (a.toNat : Int) 255 = (n : Int) := by rw [e1, hn]; unfold nOf; simp only [show ((2 ^ 8 : Nat) : Int) = 256 from rfl]; omega
  clear e1
  have HL := Lib.hid hL; have HR := Lib.hid hr; have HN := Lib.hid hn
  clear hL hr
  by_cases hb : 8 < n
  · have hno : ¬ RdOk a b := fun h => by have := h.1; omega
    have hL0 : L = [] := by rw [HL.out, rdL, if_neg hno]
    have hr0 : r = 50 := by rw [HR.out, rdE, if_neg hno]
    subst hL0 hr0
    clear hn hno
    go_enter Try.func72, Try.ntmps72
    go_wp2
    go_ret2
    exact ⟨_, rfl, OwnB.nil _ _ _, B⟩
  · have hn8 : n ≤ 8 := by omega
    clear hb hn
    go_enter Try.func72, Try.ntmps72
    go_wp2
    have HB := Lib.hid B; clear B
    go_loopw [7, 16] (fun xv i wr => ∃ k : Nat, k ≤ n ∧ i = .int .u64 k ∧ Hid (OwnB wr w.heap.size 5 xv (dig a k)) ∧ Below w.heap.size w wr) (fun _ i _ => n - (intOf i).toNat)
    case atStart => exact ⟨0, by omega, rfl, Lib.hid (OwnB.nil _ _ _), HB.out⟩
    case round =>
      obtain ⟨k, hk, rfl, hh, B⟩ := hrel
      by_cases hlt : k < n
      · have hp : (2 : Int) ^ (8 + 2 * k) = ((256 * 4 ^ k : Nat) : Int) := by
          have : (2 : Nat) ^ (8 + 2 * k) = 256 * 4 ^ k := by rw [Nat.pow_add, Nat.pow_mul]
          exact_mod_cast this
        have HP := Lib.hid hp; clear hp
        obtain ⟨q, hq⟩ : ∃ q : UInt8, q = UInt8.ofNat (a.toNat / 256 / 4 ^ k % 4) := ⟨_, rfl⟩
        have hqn : q.toNat = a.toNat / 256 / 4 ^ k % 4 := by rw [hq, UInt8.toNat_ofNat']; omega
        have hql : q.toNat < 256 := q.toNat_lt
        have e2 : bits .and .u64 ((a.toNat : Int) / 2 ^ (8 + 2 * k)) 3 = (q.toNat : Int) := by
          have e3 : ((a.toNat : Int) / 2 ^ (8 + 2 * k)) = ((a.toNat / 256 / 4 ^ k : Nat) : Int) := by
            rw [HP.out, Nat.div_div_eq_div_mul]; exact (Int.natCast_ediv _ _).symm
          have h4 : a.toNat / 256 / 4 ^ k ≤ a.toNat := by rw [Nat.div_div_eq_div_mul]; exact Nat.div_le_self _ _
          rw [e3, hqn]
          generalize a.toNat / 256 / 4 ^ k = z at h4
          rw [and_int (a := (z : Int)) 2 (by omega) (by omega) 3 (by decide) (by omega)]
          exact (Int.natCast_emod z 4).symm
        have HQ := Lib.hid hq; have HO := Lib.hid hh.out; have HBB := Lib.hid B
        clear hq hqn hh B
        have hlk : (dig a k).length = k := dig_len a k
        have HLK := Lib.hid hlk; clear hlk
        go_wp2_with (at_builtin; refine wpList_append (by rfl) rfl rfl rfl Try.underlying69 info_u8 rfl (by omega) (by exact own_below HO.out ((Below.refl _ _).alloc (Nat.le_refl _) _)) (by exact lit_u8 _ q (by omega) rfl) (one_u8' q) (by rw [HLK.out]; omega) (by rw [HLK.out]; omega) (by exact HBB.out.alloc HBB.out.size _) (Nat.le_refl _) ?_; intro v1 w3 o3 B3 g3; clear g3)
        have o4 : OwnB w3 w.heap.size 5 v1 (dig a (k + 1)) := OwnB.of o3 (by rw [dig_succ, List.map_append, ← HQ.out])
        have HO4 := Lib.hid o4; have HB3 := Lib.hid B3; clear o3 o4 B3
        go_roundw
        case rel => exact ⟨k + 1, by omega, by go_num, Lib.hid HO4.out, HB3.out⟩
        case measure => simp [intOf]; omega
      · obtain rfl : k = n := by omega
        have HO := Lib.hid hh.out
        obtain ⟨l, hl⟩ : ∃ l, l = dig a k := ⟨_, rfl⟩
        rw [← hl] at HO
        obtain ⟨c, hc⟩ : ∃ c, c = w0 l := ⟨_, rfl⟩
        obtain ⟨d, hd⟩ : ∃ d, d = w1 l := ⟨_, rfl⟩
        obtain ⟨e, he⟩ : ∃ e, e = kErr l := ⟨_, rfl⟩
        have WT := fun v w h => KWrite_any v l c d e hc hd he w h
        have HW := Lib.hid WT; clear WT
        have hiff : RdOk a b ↔ e = 0 ∧ [c, d] = [a, b] := by
          unfold RdOk
          rw [← HN.out, ← hl, ← he, ← hc, ← hd]
          simp only [List.cons.injEq, and_true]
          exact ⟨fun h => ⟨h.2.1, h.2.2.1, h.2.2.2⟩, fun h => ⟨hn8, h.1, h.2.1, h.2.2⟩⟩
        have hrl : RdOk a b → L = l ∧ r = 0 := fun h => ⟨by rw [HL.out, rdL, if_pos h, ← HN.out, hl], by rw [HR.out, rdE, if_pos h]⟩
        have hrn : ¬ RdOk a b → L = [] ∧ r = 50 := fun h => ⟨by rw [HL.out, rdL, if_neg h], by rw [HR.out, rdE, if_neg h]⟩
        clear hc hd he hl hh
        have hcase : (e != 0) = true ∧ L = [] ∧ r = 50 ∨ e = 0 ∧ ((!decide ([c, d] = [a, b])) = true ∧ L = [] ∧ r = 50 ∨ (!decide ([c, d] = [a, b])) = false ∧ L = l ∧ r = 0) := by
          by_cases h1 : e = 0
          · by_cases h2 : [c, d] = [a, b]
            · have := hrl (hiff.2 ⟨h1, h2⟩)
              exact .inr ⟨h1, .inr ⟨by rw [decide_eq_true h2]; rfl, this⟩⟩
            · have := hrn (fun h => h2 (hiff.1 h).2)
              exact .inr ⟨h1, .inl ⟨by rw [decide_eq_false h2]; rfl, this⟩⟩
          · have := hrn (fun h => h1 (hiff.1 h).1)
            exact .inl ⟨by rw [bne_iff_ne]; exact h1, this⟩
        clear hiff hrl hrn
        rcases hcase with ⟨h1, rfl, rfl⟩ | ⟨rfl, ⟨h2, rfl, rfl⟩ | ⟨h2, rfl, rfl⟩⟩
        · go_wp2_with fail
          refine (HW.out _ _ HO.out.rd).mono ?_
          rintro e w3 ⟨rfl, bb⟩
          replace B := B.trans (bb.mono B.size); clear bb
          go_wp2
          go_ret2
          exact ⟨_, rfl, OwnB.nil _ _ _, B.alloc B.size _⟩
        · have q1 := fun W => pair_neq c d a b true h2.symm W
          go_wp2_with fail
          refine (HW.out _ _ HO.out.rd).mono ?_
          rintro e w3 ⟨rfl, bb⟩
          replace B := B.trans (bb.mono B.size); clear bb
          go_wp2
          go_ret2
          exact ⟨_, rfl, OwnB.nil _ _ _, B.alloc B.size _⟩
        · have q1 := fun W => pair_neq c d a b false h2.symm W
          go_wp2_with fail
          refine (HW.out _ _ HO.out.rd).mono ?_
          rintro e w3 ⟨rfl, bb⟩
          have o4 := (HO.out.below bb).below ((Below.refl _ _).alloc (Nat.le_refl _) (.cells #[.int .u64 c.toNat, .int .u64 d.toNat] 76))
          have HO4 := Lib.hid o4
          replace B := B.trans (bb.mono B.size); clear bb o4
          go_wp2
          go_ret2
          exact ⟨_, rfl, HO4.out, B.alloc B.size _⟩
end Go.Proofs.Ytodbbacmdjcheaa
namespace Go.Proofs.Ytodbbacmdjcheaa
open Go.RowKit L02 L05 L13
end Go.Proofs.Ytodbbacmdjcheaa
