/- Contracts of the functions that the laws 'N' reach, part 3. No condition. -/
import Derived.Test.YtodbbacmdjcheaaMNb
set_option linter.unusedVariables false
set_option linter.unusedSimpArgs false
namespace Go.Proofs.Ytodbbacmdjcheaa
open Go.RowKit
section
variable {P : Program} {ops : Array Oper} {rest : List Oper} {o : Oper} {a : Act} {Q : Exit → Act → World → Prop} {w : World}
theorem info3 {e : TypeId} {z : Value} {sz by_ : Nat} (hi : (P.info? e).map (fun i => (i.zero, i.size, i.bytes)) = some (some z, sz, by_)) :
    ∃ i, P.info? e = some i ∧ i.zero = some z ∧ i.size = sz ∧ i.bytes = by_ := by
  obtain ⟨i, h1, h2⟩ := Option.map_eq_some_iff.1 hi
  simp only [Prod.mk.injEq] at h2
  exact ⟨i, h1, h2.1, h2.2.1, h2.2.2⟩
theorem wpList_wanted (hw : Region.wanted o (yielded ops a.tmps) = true) (h : ∀ K : Act → World → Prop, (∀ a w, wpList P ops Q rest a w → K a w) → o.wp P a w K Q) : wpList P ops Q (o :: rest) a w := by
  unfold wpList
  rw [if_pos hw]
  exact .inl (h _ fun _ _ h => h)
theorem wpList_builtin2 (hgd : Region.wanted o (yielded ops a.tmps) = true) {b : Builtin} {d s : Operand} {ats : Array TypeId} (ho : o.op = .call { callee := .builtin b, args := #[d, s], argTypes := ats })
    {dv sv : Value} (hd : a.eval d = dv) (hs : a.eval s = sv) {v : Value} {w' : World}
    (hrun : ∀ cs, (builtin b ats o.type cs #[dv, sv]).run P w = .ok (.value v) w') (h : wpList P ops Q rest (a.put o.dst v) w') : wpList P ops Q (o :: rest) a w := by
  refine wpList_wanted hgd fun K hK => ?_
  unfold Oper.wp
  simp [execOp, ho, resolve, invoke, hd, hs, hrun]
  exact hK _ _ h
/-- The cell behind an own row, whole. -/
theorem own_form {B e sz n : Nat} {v : Value} {xs : List Value} (h : w.ownsRow B e sz v n xs) (hn : 0 < n) :
    ∃ g cap cur, v = .slice (some ⟨g, 0, none⟩) n cap ∧ B ≤ g ∧ w.heap[g]? = some (.cells cur e (0, 0)) ∧ n ≤ cap ∧ cap ≤ maxLen ∧ cur.size = cap * sz ∧ cur.toList.take (n * sz) = xs := by
  rcases h.2 with ⟨_, h0⟩ | h0
  · omega
  · exact h0
theorem splice_take {α : Type} (L : List α) (off n : Nat) (cs : List α) (h : off + cs.length ≤ n) (hL : off ≤ L.length) : splice (L.take n) off cs = (splice L off cs).take n := by
  unfold splice
  have h1 : (L.take off).length = off := by rw [List.length_take]; omega
  rw [List.take_append, h1, List.take_append, List.take_take, List.take_take, List.drop_take, Nat.min_eq_left (by omega), Nat.min_eq_right (by omega : off ≤ n), List.take_of_length_le (l := cs) (by omega)]
  congr 3
  omega
/-- dv is v[off : off+k] (one cell each). -/
def CutOf (v : Value) (off k : Nat) (dv : Value) : Prop := ∃ A n c, v = .slice A n c ∧ off + k ≤ n ∧ n ≤ c ∧ dv = .slice (if c = off then A else A.map (·.add off)) k (c - off)
theorem CutOf.all {w : World} {B e n : Nat} {v : Value} {xs : List Value} (h : w.ownsRow B e 1 v n xs) : CutOf v 0 n v := by
  rcases h.2 with ⟨rfl, rfl⟩ | ⟨g, cap, cur, rfl, _, _, hc, _⟩
  · exact ⟨none, 0, 0, rfl, by omega, by omega, rfl⟩
  · refine ⟨_, _, _, rfl, by omega, hc, ?_⟩
    split <;> simp [Addr.add]
theorem run_copy_own {dT sT ty e B : Nat} {v dv sv : Value} {n off k m : Nat} {xs ys : List Value} (hu : P.underlying dT = some (.slice e)) (hsz : (P.info? e).map (·.size) = some 1)
    (hown : w.ownsRow B e 1 v n xs) (hd : CutOf v off k dv) (hs : Rd w 1 sv m ys) (h1 : ∀ u ∈ ys, u.oneCell' = true) :
    ∃ w', (Builtin.copy_ #[dT, sT] ty #[dv, sv]).run P w = .ok (.int .i64 (min m k : Nat)) w' ∧ w'.ownsRow B e 1 v n (splice xs off (ys.take k)) ∧ w.grownBy w' v.ownBlock := by
  obtain ⟨A, n', c, hv, hk, hn', rfl⟩ := hd
  obtain ⟨SA, sc, rfl, s1, s2, s3, s4, s5⟩ := hs
  have s3 : ys.length = m := by omega
  have hxl : xs.length = n := by have := hown.1; omega
  have hnn : n' = n := by
    rcases hown.2 with ⟨h, h'⟩ | ⟨g, cap, cur, h, _⟩ <;> rw [hv] at h <;> simp at h <;> omega
  subst hnn
  by_cases h0 : min m k = 0
  · refine ⟨w, ?_, ?_, World.grownBy.refl w _⟩
    · rw [h0]
      exact run_copy_none w dT sT ty e _ SA k _ m sc hu hsz h0
    · have : ys.take k = [] := by apply List.eq_nil_of_length_eq_zero; rw [List.length_take]; omega
      rw [this]; simpa [splice] using hown
  · have hm : 0 < m := by omega
    have hk0 : 0 < k := by omega
    obtain ⟨g, cap, cur, hv', hB, hg, hnc, hcm, hcs, htake⟩ := own_form hown (by omega)
    rw [hv] at hv'
    simp at hv'
    obtain ⟨rfl, rfl⟩ := hv'
    rcases SA with _ | sa
    · have := s4 rfl; omega
    obtain ⟨p1, p2, p3⟩ := s5 hm sa rfl
    have hdst : (if c = off then (some ⟨g, 0, none⟩ : Option Addr) else (some (⟨g, 0, none⟩ : Addr)).map (·.add off)) = some ⟨g, off, none⟩ := by
      rw [if_neg (by omega)]; simp [Addr.add]; intro h; exact h.symm
    have hsrc : ∀ j u, (ys.take k)[j]? = some u → w.cell? (sa.add j) = some u := by
      intro j u hu
      rw [List.getElem?_take] at hu
      split at hu
      · obtain ⟨b, q, s⟩ := sa
        simp at p1; subst p1
        have := p3 j u hu
        rw [show ((⟨b, q, none⟩ : Addr).add j) = ⟨b, q + j, none⟩ by unfold Addr.add; split <;> simp_all]
        exact this
      · cases hu
    have hlen : (ys.take k).length = min m k := by rw [List.length_take, s3, Nat.min_comm]
    have hrun := run_copy_row (P := P) w dT sT ty e g off k (c - off) sa m sc cur e (ys.take k) hu hsz hg hlen hsrc (by rw [hlen, hcs]; omega) (fun u hu => h1 u (List.mem_of_mem_take hu))
    rw [hdst]
    refine ⟨_, by rw [hrun, hlen]; rfl, ?_, ?_⟩
    · rw [hv]
      refine ⟨by rw [length_splice _ _ _ (by rw [hlen]; omega)]; omega, .inr ⟨g, c, _, rfl, hB, setRow_heap w g cur _ e _ hg, hnc, hcm, ?_, ?_⟩⟩
      · simp only [List.size_toArray, List.length_append, List.length_take, List.length_drop, Array.length_toList, hcs, s3]; omega
      · rw [← htake]
        have hcl : cur.toList.length = c := by rw [Array.length_toList]; omega
        rw [Nat.mul_one, splice_take _ _ _ _ (by rw [hlen]; omega) (by omega)]
        simp only [splice, hlen, List.append_assoc]
    · rw [hv]
      exact ⟨rfl, rfl, rfl, by simp [World.setRow], fun i _ hi => setRow_other w g i _ (fun e => hi (by simp [Value.ownBlock, e]))⟩
/-- append(v, lit...), lit a literal of m elements that lies in a block. -/
theorem wpList_append (hgd : Region.wanted o (yielded ops a.tmps) = true) {s x : Operand} {t e B sz by_ : Nat} (ho : o.op = .call { callee := .builtin .append, args := #[s, x], argTypes := #[t, t] })
    {v lv z : Value} {n m : Nat} {xs ys : List Value} (hs : a.eval s = v) (hx : a.eval x = lv) (ht : P.underlying t = some (.slice e))
    (hi : (P.info? e).map (fun i => (i.zero, i.size, i.bytes)) = some (some z, sz, by_)) (hzs : z.cells.size = sz) (hsz : 0 < sz)
    (hown : w.ownsRow B e sz v n xs) (hrd : Rd w sz lv m ys) (h1 : ∀ u ∈ ys, u.oneCell' = true) (h63 : n + m ≤ 9223372036854775807) (hbytes : (n + m) * by_ ≤ 140737488355328)
    {w0 : World} (hb : Below B w0 w) (hB : B ≤ w0.heap.size)
    (h : ∀ v' w', w'.ownsRow B e sz v' (n + m) (xs ++ ys) → Below B w0 w' → w.grownBy w' v.ownBlock → wpList P ops Q rest (a.put o.dst v') w') : wpList P ops Q (o :: rest) a w := by
  obtain ⟨i, hi1, hi2, hi3, hi4⟩ := info3 hi
  obtain ⟨A, c, rfl, s1, s2, s3, s4, s5⟩ := hrd
  rcases A with _ | ad
  · have hc := s4 rfl
    have hm : m = 0 := by omega
    subst hc; subst hm
    have hy : ys = [] := List.eq_nil_of_length_eq_zero (by simpa using s3)
    subst hy
    have hrun := run_append_owned_none (P := P) w B t o.type e i sz ht hi1 v n xs hown
    refine wpList_builtin2 hgd ho hs hx (v := v) (w' := w) (fun cs => ?_) (h v w (by simpa using hown) hb (World.grownBy.refl w _))
    simp only [builtin, Sem.run_bind, hrun, Result.andThen_ok]; rfl
  · obtain ⟨b, q, sp⟩ := ad
    have hcell : ∀ j u, ys[j]? = some u → w.cell? ((⟨b, q, sp⟩ : Addr).add j) = some u := by
      intro j u hu
      have hm : 0 < m := by
        rcases Nat.eq_zero_or_pos m with h0 | h0
        · subst h0
          have : ys = [] := List.eq_nil_of_length_eq_zero (by simpa using s3)
          subst this; simp at hu
        · exact h0
      obtain ⟨p1, p2, p3⟩ := s5 hm _ rfl
      simp at p1; subst p1
      rw [show ((⟨b, q, none⟩ : Addr).add j) = ⟨b, q + j, none⟩ by unfold Addr.add; split <;> simp_all]
      exact p3 j u hu
    refine wpList_wanted hgd fun K hK => ?_
    refine wp_append_own _ s x t ho B e i z sz by_ ht hi1 hi2 hi3 hi4 hzs hsz v n xs hs hown ⟨b, q, sp⟩ m c ys hx s3 hcell h1 (by unfold maxLen; omega) hbytes (Nat.le_trans hB hb.size) fun v' w' g1 g2 g3 => hK _ _ ?_
    exact h v' w' g1 (hb.grown g2 (Nat.le_trans hB hb.size) fun k hk => (hown.lt k hk).1) g2
theorem lit_rdN {w : World} {cs : Array Value} {e : TypeId} {n : Nat} (h : cs.size = n) (hn : n ≤ 9223372036854775807) : Rd (w.alloc (.cells cs e)) 1 (.slice (some ⟨w.heap.size, 0, none⟩) n n) n cs.toList := by
  refine ⟨_, n, rfl, by omega, hn, by simpa using h, fun h => (by cases h), fun _ ad h => ?_⟩
  cases h
  refine ⟨rfl, by simp, fun j u hu => ?_⟩
  rw [show (0 + j) = j by omega, cell_of_row _ w.heap.size j cs e (0, 0) (heap_alloc_new w _)]
  simpa using hu
theorem alloc_heap (w : World) (o : Obj) : (w.alloc o).heap = w.heap.push o := rfl
/-- what is known of a block that is known whole, for the walk. -/
theorem blk_cell {w : World} {g : Nat} {cs : Array Value} {e : TypeId} (hg : w.heap[g]? = some (.cells cs e (0, 0))) (i : Nat) : w.cell? ⟨g, i, none⟩ = cs[i]? := cell_of_row w g i cs e (0, 0) hg
theorem blk_free {w : World} {g : Nat} {cs : Array Value} {e : TypeId} (hg : w.heap[g]? = some (.cells cs e (0, 0))) (i : Nat) : w.frozen? ⟨g, i, none⟩ = false := frozen_of_row w g i cs e hg
theorem blk_set {w : World} {g i : Nat} {cs : Array Value} {e : TypeId} (hg : w.heap[g]? = some (.cells cs e (0, 0))) (u : Value) : (w.setCell ⟨g, i, none⟩ u).heap[g]? = some (.cells (cs.setIfInBounds i u) e (0, 0)) := by
  simp [World.setCell, Array.getElem?_modify, hg]
theorem blk_far {w : World} {g : Nat} {p : Addr} {o : Obj} (hg : w.heap[g]? = some o) (hp : g ≠ p.block) (u : Value) : (w.setCell p u).heap[g]? = some o := (Below.heap_setCell w p u g hp).trans hg
theorem blk_new (w : World) (o : Obj) : (w.alloc o).heap[w.heap.size]? = some o := heap_alloc_new w o
theorem blk_old {w : World} {g : Nat} {o : Obj} (hg : w.heap[g]? = some o) (o' : Obj) : (w.alloc o').heap[g]? = some o := (Below.heap_alloc w o' g (Array.getElem?_eq_some_iff.1 hg).1).trans hg
theorem blk_below {w w' : World} {g : Nat} {o : Obj} (hg : w.heap[g]? = some o) (hb : Below w.heap.size w w') : w'.heap[g]? = some o := (hb.block g (Array.getElem?_eq_some_iff.1 hg).1).trans hg
/-- block g is just the cells cs. -/
def Bx (w : World) (g : Nat) (t : TypeId) (cs : Array Value) : Prop := w.heap[g]? = some (.cells cs t (0, 0))
theorem Bx.cell {w : World} {g : Nat} {t : TypeId} {cs : Array Value} (h : Bx w g t cs) (i : Nat) : w.cell? ⟨g, i, none⟩ = cs[i]? := blk_cell h i
theorem Bx.free {w : World} {g : Nat} {t : TypeId} {cs : Array Value} (h : Bx w g t cs) (i : Nat) : w.frozen? ⟨g, i, none⟩ = false := blk_free h i
theorem Bx.lt {w : World} {g : Nat} {t : TypeId} {cs : Array Value} (h : Bx w g t cs) : g < w.heap.size := (Array.getElem?_eq_some_iff.1 h).1
theorem Bx.below {w w' : World} {g : Nat} {t : TypeId} {cs : Array Value} (h : Bx w g t cs) (hb : Below w.heap.size w w') : Bx w' g t cs := blk_below h hb
theorem Bx.alloc {w : World} {g : Nat} {t : TypeId} {cs : Array Value} (h : Bx w g t cs) (o : Obj) : Bx (w.alloc o) g t cs := blk_old h o
theorem Bx.five {w : World} {g : Nat} {t : TypeId} {cs : Array Value} (h : Bx w g t cs) : (∀ i, w.cell? ⟨g, i, none⟩ = cs[i]?) ∧ (∀ i, w.frozen? ⟨g, i, none⟩ = false) ∧ (∀ o i, (w.alloc o).cell? ⟨g, i, none⟩ = cs[i]?) ∧ (∀ o o2 i, ((w.alloc o).alloc o2).cell? ⟨g, i, none⟩ = cs[i]?) ∧ (∀ o i, (w.alloc o).frozen? ⟨g, i, none⟩ = false) :=
  ⟨h.cell, h.free, fun o => (h.alloc o).cell, fun o o2 => ((h.alloc o).alloc o2).cell, fun o => (h.alloc o).free⟩
theorem hD {p : Prop} (h : p) : Hid p := h
theorem Bx.drewN {w : World} {g : Nat} {t : TypeId} {cs : Array Value} (h : Bx w g t cs) (n : Nat) : Bx (w.drewN n) g t cs := h
theorem Bx.set {w : World} {g i : Nat} {t : TypeId} {cs : Array Value} (h : Bx w g t cs) (u : Value) : Bx (w.setCell ⟨g, i, none⟩ u) g t (cs.setIfInBounds i u) := blk_set h u
theorem Bx.far {w : World} {g : Nat} {t : TypeId} {cs : Array Value} (h : Bx w g t cs) {p : Addr} (hp : g ≠ p.block) (u : Value) : Bx (w.setCell p u) g t cs := blk_far h hp u
theorem Bx.new (w : World) (t : TypeId) (cs : Array Value) : Bx (w.alloc (.cells cs t)) w.heap.size t cs := blk_new w _
/-- a part of a block from its head on. -/
theorem lit_part {w : World} {g n c : Nat} {cs : Array Value} {e : TypeId} {fr : Nat × Nat} (hg : w.heap[g]? = some (.cells cs e fr)) (hc : c = cs.size) (hn : n ≤ cs.size) (hm : cs.size ≤ 1048576) : Rd w 1 (.slice (some ⟨g, 0, none⟩) n c) n (cs.toList.take n) := by
  subst hc
  refine ⟨_, _, rfl, hn, by omega, by simp; omega, fun h => (by cases h), fun _ ad h => ?_⟩
  cases h
  refine ⟨rfl, (Array.getElem?_eq_some_iff.1 hg).1, fun j u hu => ?_⟩
  rw [show (0 + j) = j by omega, cell_of_row _ g j cs e fr hg]
  rw [List.getElem?_take] at hu
  split at hu
  · simpa using hu
  · cases hu
theorem part_words {w : World} {g n c : Nat} {cs : Array Value} {e : TypeId} {fr : Nat × Nat} (l : List UInt64) (hg : w.heap[g]? = some (.cells cs e fr)) (hc : c = cs.size) (hn : n = l.length) (hl : cs.toList.take n = l.map u64) (hm : cs.size ≤ 1048576) : Words w (.slice (some ⟨g, 0, none⟩) n c) l := by
  have h2 : n ≤ cs.size := by
    have := congrArg List.length hl
    rw [List.length_take, List.length_map, Array.length_toList] at this
    omega
  have := lit_part hg hc h2 hm
  rw [hl, hn] at this
  rw [hn]; exact this
theorem lit_words {w : World} {cs : Array Value} {e : TypeId} {n : Nat} (l : List UInt64) (h : cs.toList = l.map u64) (hn : n = l.length) (hl : l.length ≤ 1048576) : Words (w.alloc (.cells cs e)) (.slice (some ⟨w.heap.size, 0, none⟩) n n) l := by
  have hs : cs.size = n := by rw [← Array.length_toList, h]; simp [hn]
  have := lit_rdN (w := w) (e := e) hs (by omega)
  rw [h] at this
  subst hn; exact this
theorem lit_rd {w : World} {u : Value} {e : TypeId} : Rd (w.alloc (.cells #[u] e)) 1 (.slice (some ⟨w.heap.size, 0, none⟩) 1 1) 1 [u] := by
  refine ⟨_, 1, rfl, by omega, by omega, rfl, fun h => (by cases h), fun _ ad h => ?_⟩
  cases h
  refine ⟨rfl, by simp, fun j u' hu => ?_⟩
  rcases j with _ | j
  · simp at hu; subst hu; simp [go_sem]
  · simp at hu
/-- make([]T, n), whole; one cell a T. -/
theorem wpList_make (hgd : Region.wanted o (yielded ops a.tmps) = true) {l c : Operand} {t e B by_ : Nat} (ho : o.op = .makeSlice t l c)
    {z : Value} {n : Nat} (hl : a.eval l = .int .i64 (n : Int)) (hc : a.eval c = .int .i64 (n : Int)) (ht : P.underlying t = some (.slice e))
    (hi : (P.info? e).map (fun i => (i.zero, i.size, i.bytes)) = some (some z, 1, by_)) (hzs : z.cells = #[z]) (hbytes : by_ * n ≤ 281474976710656) (h63 : n ≤ 9223372036854775807)
    {w0 : World} (hb : Below B w0 w) (hB : B ≤ w0.heap.size)
    (h : ∀ v' w', w'.ownsRow B e 1 v' n (List.replicate n z) → Below B w0 w' → wpList P ops Q rest (a.put o.dst v') w') : wpList P ops Q (o :: rest) a w := by
  obtain ⟨i, hi1, hi2, hi3, hi4⟩ := info3 hi
  obtain ⟨w', hrun, g1, g2⟩ := run_make_full (P := P) w B t e i z 1 ht hi1 hi2 hi3 .i64 .i64 n (by rw [hi4]; exact hbytes) (by unfold maxLen; omega) (Nat.le_trans hB hb.size)
  refine wpList_wanted hgd fun K hK => ?_
  unfold Oper.wp
  simp [execOp, ho, hl, hc, hrun]
  refine hK _ _ (h _ w' ?_ (hb.grown g2 (Nat.le_trans hB hb.size) (fun _ hk => by cases hk)))
  rw [hzs, Nat.mul_one, toList_madeCells_one] at g1
  exact g1
theorem one_u64s (l : List UInt64) : ∀ u ∈ l.map u64, u.oneCell' = true := by
  intro u hu; obtain ⟨x, _, rfl⟩ := List.mem_map.1 hu; rfl
theorem OwnW.of {w : World} {B E n : Nat} {v : Value} {xs : List Value} {l : List UInt64} (h : w.ownsRow B E 1 v n xs) (hx : xs = l.map u64) : OwnW w B E v l := by
  subst hx
  have hn : n = l.length := by have := h.1; simp at this; omega
  subst hn; exact h
theorem OwnI.of {w : World} {B E n : Nat} {v : Value} {xs : List Value} {l : List Int} (h : w.ownsRow B E 1 v n xs) (hx : xs = l.map i64) : OwnI w B E v l := by
  subst hx
  have hn : n = l.length := by have := h.1; simp at this; omega
  subst hn; exact h
theorem OwnW.nil (w : World) (B E : Nat) : OwnW w B E (.slice none 0 0) [] := World.ownsRow_nil w B E 1
theorem OwnI.nil (w : World) (B E : Nat) : OwnI w B E (.slice none 0 0) [] := World.ownsRow_nil w B E 1
theorem own_cutFrom {v : Value} {n B e t : Nat} {xs : List Value} (h : w.ownsRow B e 1 v n xs) (ht : P.underlying t = some (.slice e)) (hs : (P.info? e).map (·.size) = some 1) {lo : Int} (h0 : 0 ≤ lo) (h1 : lo ≤ n) :
    ∃ dv, (∀ W, (Instr.sliceAt t v (some (.int .i64 lo)) none none).run P W = .ok dv W) ∧ CutOf v lo.toNat (n - lo.toNat) dv := by
  obtain ⟨k, rfl⟩ := Int.eq_ofNat_of_zero_le h0
  obtain ⟨dv, _, r1, _, _, A, c, r3, r4⟩ := Rd.cutN (Rd.of_own h) ht hs (lo := k) (hi := n) (by omega) (Nat.le_refl _)
  refine ⟨dv, r1 rfl, A, n, c, r3, by simp; omega, ?_, by simpa using r4⟩
  rcases h.2 with ⟨h, h'⟩ | ⟨g, cap, cur, h, _, _, hc, _⟩
  · omega
  · rw [r3] at h; simp at h; omega
theorem own_below {w w' : World} {B e sz n : Nat} {v : Value} {xs : List Value} (h : w.ownsRow B e sz v n xs) (hb : Below w.heap.size w w') : w'.ownsRow B e sz v n xs := by
  refine ⟨h.1, h.2.imp id ?_⟩
  rintro ⟨g, cap, cur, h1, h2, h3, h4⟩
  exact ⟨g, cap, cur, h1, h2, (hb.block g (Array.getElem?_eq_some_iff.1 h3).1).trans h3, h4⟩
theorem own_mono {w : World} {B B' e sz n : Nat} {v : Value} {xs : List Value} (h : w.ownsRow B e sz v n xs) (hB : B' ≤ B) : w.ownsRow B' e sz v n xs := by
  refine ⟨h.1, h.2.imp id ?_⟩
  rintro ⟨g, cap, cur, h1, h2, h4⟩
  exact ⟨g, cap, cur, h1, by omega, h4⟩
theorem OwnW.below {w w' : World} {B E : Nat} {v : Value} {l : List UInt64} (h : OwnW w B E v l) (hb : Below w.heap.size w w') : OwnW w' B E v l := own_below h hb
theorem OwnI.below {w w' : World} {B E : Nat} {v : Value} {l : List Int} (h : OwnI w B E v l) (hb : Below w.heap.size w w') : OwnI w' B E v l := own_below h hb
theorem OwnW.kept {w w' : World} {B E : Nat} {v : Value} {l : List UInt64} {row : Option Nat} (h : OwnW w B E v l) (hg : w.grownBy w' row) (hne : v.ownBlock = none ∨ v.ownBlock ≠ row) : OwnW w' B E v l := World.ownsRow.kept h hg hne
/-- make([]T, n), n an int that is not below 0. -/
theorem wpList_makeI (hgd : Region.wanted o (yielded ops a.tmps) = true) {l c : Operand} {t e B by_ : Nat} (ho : o.op = .makeSlice t l c)
    {z : Value} {n : Int} (hl : a.eval l = .int .i64 n) (hc : a.eval c = .int .i64 n) (ht : P.underlying t = some (.slice e))
    (hi : (P.info? e).map (fun i => (i.zero, i.size, i.bytes)) = some (some z, 1, by_)) (hzs : z.cells = #[z]) (h0 : 0 ≤ n) (hby : by_ ≤ 64) (hn : n ≤ 1048576)
    {w0 : World} (hb : Below B w0 w) (hB : B ≤ w0.heap.size)
    (h : ∀ v' w', w'.ownsRow B e 1 v' n.toNat (List.replicate n.toNat z) → Below B w0 w' → Below w.heap.size w w' → wpList P ops Q rest (a.put o.dst v') w') : wpList P ops Q (o :: rest) a w := by
  obtain ⟨m, rfl⟩ := Int.eq_ofNat_of_zero_le h0
  obtain ⟨i, hi1, hi2, hi3, hi4⟩ := info3 hi
  have hbb : by_ * m ≤ 64 * 1048576 := Nat.mul_le_mul hby (by omega)
  obtain ⟨w', hrun, g1, g2⟩ := run_make_full (P := P) w B t e i z 1 ht hi1 hi2 hi3 .i64 .i64 m (by rw [hi4]; omega) (by unfold maxLen; omega) (Nat.le_trans hB hb.size)
  refine wpList_wanted hgd fun K hK => ?_
  unfold Oper.wp
  simp [execOp, ho, hl, hc, hrun]
  refine hK _ _ (h _ w' ?_ (hb.grown g2 (Nat.le_trans hB hb.size) (fun _ hk => by cases hk)) ((Below.refl _ _).grown g2 (Nat.le_refl _) (fun _ hk => by cases hk)))
  rw [hzs, Nat.mul_one, toList_madeCells_one] at g1
  simpa using g1
/-- a slice with elements, written out. -/
theorem Rd.form {w : World} {sz n : Nat} {v : Value} {xs : List Value} (h : Rd w sz v n xs) (hn : 0 < n) : ∃ b o c, v = .slice (some ⟨b, o, none⟩) n c ∧ b < w.heap.size ∧ n ≤ c ∧ ∀ j u, xs[j]? = some u → w.cell? ⟨b, o + j, none⟩ = some u := by
  obtain ⟨A, c, rfl, h1, h2, h3, h4, h5⟩ := h
  cases A with
  | none => have := h4 rfl; omega
  | some ad =>
    obtain ⟨p1, p2, p3⟩ := h5 hn ad rfl
    obtain ⟨b, o, s⟩ := ad
    simp at p1; subst p1
    exact ⟨b, o, c, rfl, p2, h1, p3⟩
/-- forget how the world came about. -/
theorem wp_gen {c : Code} {w : World} (Φ : World → Prop) (h0 : Φ w) (h : ∀ w1, Φ w1 → c.wp P Q a w1) : c.wp P Q a w := h w h0
theorem calls_gen {f : FuncId} {args : Array Value} {R : Ending → World → Prop} {w : World} (Φ : World → Prop) (h0 : Φ w) (h : ∀ w1, Φ w1 → Calls P f args w1 R) : Calls P f args w R := h w h0
theorem OwnW.set {B E k : Nat} {v : Value} {l : List UInt64} {x : UInt64} (h : w.ownsRow B E 1 v l.length ((l.map u64).set k (.int .u64 x.toNat))) : OwnW w B E v (l.set k x) :=
  OwnW.of (n := l.length) h (by rw [List.map_set]; rfl)
end
end Go.Proofs.Ytodbbacmdjcheaa
namespace Go.Proofs.Ytodbbacmdjcheaa
theorem one_u64 : (Try.prog.info? 64).map (·.size) = some 1 := by kernel_rfl
theorem info_u64 : (Try.prog.info? 64).map (fun i => (i.zero, i.size, i.bytes)) = some (some (.int .u64 0), 1, 8) := by kernel_rfl
theorem one_int : (Try.prog.info? 3).map (·.size) = some 1 := by kernel_rfl
end Go.Proofs.Ytodbbacmdjcheaa
namespace Go.Proofs.Ytodbbacmdjcheaa
open Go.RowKit L02
def Quiet (w w' : World) : Prop := ∃ n, w' = w.drewN n
theorem Quiet.below {w w' : World} (h : Quiet w w') : Below w.heap.size w w' := by obtain ⟨n, rfl⟩ := h; exact below_drewN (Below.refl _ _) n
def RetWE (w : World) (l : List UInt64) (err : Int) (e : Ending) (w' : World) : Prop := ∃ v, e = .returned (.tuple #[v, .int .i64 err]) ∧ OwnW w' w.heap.size 64 v l ∧ Below w.heap.size w w'
theorem Size_any (n : Int) (b : Bool) (hb : b = decide (SizeOk n)) (w : World) : Calls Try.prog 53 #[.int .i64 n] w fun e w' => e = .returned (.bool b) ∧ w = w' := by
  have HB := Lib.hid hb; clear hb
  go_enter Try.func53, Try.ntmps53
  go_wp2
  all_goals
    go_ret
    exact ⟨ret_bool (by rw [HB.out]; exact bool_dec (by simp [SizeOk]; try omega)), rfl⟩
theorem Check_any (v : Value) (l : List UInt64) (w : World) (h : Words w v l) : Calls Try.prog 63 #[v] w fun e w' => e = .returned (.int .i64 (chk l)) ∧ w = w' := by
  have l1 := Rd.len h Try.underlying25
  have H := Lib.hid h; clear h
  by_cases hs : SizeOk l.length
  · rw [chk_ok hs]
    have HS := Lib.hid hs; clear hs
    go_enter Try.func63, Try.ntmps63
    go_wp2_with (go_at_call 53; refine (Size_any _ true (decide_eq_true HS.out).symm _).mono ?_; rintro e w' ⟨rfl, rfl⟩)
    go_ret
    exact ⟨rfl, rfl⟩
  · rw [chk_no hs]
    have HS := Lib.hid hs; clear hs
    go_enter Try.func63, Try.ntmps63
    go_wp2_with (go_at_call 53; refine (Size_any _ false (decide_eq_false HS.out).symm _).mono ?_; rintro e w' ⟨rfl, rfl⟩)
    go_ret
    exact ⟨rfl, rfl⟩
end Go.Proofs.Ytodbbacmdjcheaa
namespace Go.Proofs.Ytodbbacmdjcheaa
open Go.RowKit
/-- A world that may come behind w: all that w has is there, unchanged. -/
structure Fut (w : World) where
  W : World
  h : Below w.heap.size w W
instance (w : World) : Nonempty (Fut w) := ⟨⟨w, Below.refl _ _⟩⟩
section
variable {P : Program} {w : World}
theorem Bx.at_ {n : Nat} {t : TypeId} {cs : Array Value} (h : w.heap.size = n) : Bx (w.alloc (.cells cs t)) n t cs := by subst h; exact Bx.new w t cs
theorem Fut.call {f : FuncId} {args : Array Value} {v : Value} {x : Fut w} (h : Calls P f args x.W fun e w' => e = .returned v ∧ Below x.W.heap.size x.W w') :
    Calls P f args x.W fun e w'' => e = .returned v ∧ ∃ y : Fut w, w'' = y.W :=
  h.mono fun _ w' ⟨he, hb⟩ => ⟨he, ⟨w', x.h.trans (hb.mono x.h.size)⟩, rfl⟩
theorem Fut.same {f : FuncId} {args : Array Value} {v : Value} {x : Fut w} (h : Calls P f args x.W fun e w' => e = .returned v ∧ x.W = w') :
    Calls P f args x.W fun e w'' => e = .returned v ∧ ∃ y : Fut w, w'' = y.W :=
  h.mono fun _ w' ⟨he, hb⟩ => ⟨he, x, hb.symm⟩
theorem wp_region_calm {id : Nat} {Q : Exit → Act → World → Prop} {a : Act} {l : List Oper} (hm : P.follows .mixedOrders = true) (hB : Region.lexB .any l.toArray = true)
    (h : wpQuiet P l.toArray (fun w' => ∃ x : Fut w, w' = x.W) (fun a' => ∀ w', (∃ x : Fut w, w' = x.W) → Q .normal a' w') l a) : (Code.region id l.toArray true).wp P Q a w :=
  wp_region_quiet (C := fun w' => ∃ x : Fut w, w' = x.W) hm hB ⟨⟨_, below_drewN (Below.refl _ _) 1⟩, rfl⟩ (by simpa using h)
end
end Go.Proofs.Ytodbbacmdjcheaa
namespace Go.Proofs.Ytodbbacmdjcheaa
open Go.RowKit
/-- cells of an array, some of them set -/
def putL (cs : Array Value) : Nat → List Value → Array Value
  | _, [] => cs
  | o, v :: r => putL (cs.setIfInBounds o v) (o + 1) r
theorem putL_size : ∀ (l : List Value) (o : Nat) (cs : Array Value), (putL cs o l).size = cs.size
  | [], _, _ => rfl
  | v :: r, o, cs => by rw [putL, putL_size r]; simp
theorem putL_get : ∀ (l : List Value) (o : Nat) (cs : Array Value) (i : Nat), o + l.length ≤ cs.size → (putL cs o l)[i]? = if o ≤ i ∧ i < o + l.length then l[i - o]? else cs[i]?
  | [], o, cs, i, _ => by simp [putL]; omega
  | v :: r, o, cs, i, h => by
    have h' : o + 1 + r.length ≤ cs.size := by simp at h; omega
    rw [putL, putL_get r (o + 1) _ i (by simpa using h')]
    by_cases h1 : i = o
    · subst h1
      rw [if_neg (by omega), if_pos (by simp)]
      rw [List.length_cons] at h
      rw [Array.getElem?_setIfInBounds, if_pos rfl, if_pos (by omega)]
      simp
    · by_cases h2 : o + 1 ≤ i ∧ i < o + 1 + r.length
      · rw [if_pos h2, if_pos (by simp; omega)]
        rw [show i - o = (i - (o + 1)) + 1 by omega, List.getElem?_cons_succ]
      · rw [if_neg h2, if_neg (by rw [List.length_cons]; omega)]
        rw [Array.getElem?_setIfInBounds_ne (by omega)]
theorem Bx.setCells {w : World} {g : Nat} {t : TypeId} : ∀ (l : List Value) (o : Nat) {cs : Array Value}, Bx w g t cs → Bx (w.setCells g o l) g t (putL cs o l)
  | [], _, _, h => h
  | v :: r, o, cs, h => by
    rw [World.setCells, putL]
    have h1 : Bx (w.setCell ⟨g, o, none⟩ v) g t (cs.setIfInBounds o v) := h.set v
    exact Bx.setCells (w := w.setCell ⟨g, o, none⟩ v) r (o + 1) h1
theorem setCells_far {g g' : Nat} {t : TypeId} {cs : Array Value} (hn : g' ≠ g) : ∀ (l : List Value) (o : Nat) (w : World), Bx w g' t cs → Bx (w.setCells g o l) g' t cs
  | [], _, _, h => h
  | v :: r, o, w, h => by
    rw [World.setCells]
    exact setCells_far hn r (o + 1) _ (h.far (p := ⟨g, o, none⟩) hn v)
theorem cell_far {w : World} {p q : Addr} {u v : Value} (h : w.cell? p = some v) (hn : p.block ≠ q.block) : (w.setCell q u).cell? p = some v := by
  rw [World.cell?_of_block (w := w) (Below.heap_setCell w q u p.block hn)]; exact h
theorem below_setCells {B g : Nat} {w0 : World} (hg : B ≤ g) : ∀ (l : List Value) (o : Nat) (w : World), Below B w0 w → Below B w0 (w.setCells g o l)
  | [], _, _, h => h
  | v :: r, o, w, h => by
    rw [World.setCells]
    exact below_setCells hg r (o + 1) _ (h.setCell (p := ⟨g, o, none⟩) hg v)
/-- a literal of structs -/
theorem lit_rdK {w : World} {cs : Array Value} {e : TypeId} {n sz : Nat} (h : cs.size = n * sz) (hn : n ≤ 1048576) : Rd (w.alloc (.cells cs e)) sz (.slice (some ⟨w.heap.size, 0, none⟩) n n) n cs.toList := by
  refine ⟨_, n, rfl, by omega, by omega, by simpa using h, fun h => (by cases h), fun _ ad h => ?_⟩
  cases h
  refine ⟨rfl, by simp, fun j u hu => ?_⟩
  rw [show (0 + j) = j by omega, cell_of_row _ w.heap.size j cs e (0, 0) (heap_alloc_new w _)]
  simpa using hu
section
variable {P : Program} {ops : Array Oper} {rest : List Oper} {o : Oper} {a : Act} {Q : Exit → Act → World → Prop} {w : World}
/-- what a store into block g leaves alone -/
def Sets (w W : World) (g : Nat) : Prop := (∀ {B : Nat} {w0 : World}, Below B w0 w → B ≤ g → Below B w0 W) ∧ ∀ {g' : Nat} {t : TypeId} {cs : Array Value}, g' ≠ g → Bx w g' t cs → Bx W g' t cs
theorem wpList_storeRow (hgd : o.guard = none) (ty : TypeId) (x y : Operand) (ho : o.op = .store ty x y) (g : Nat) (cells : Array Value) (hx : a.eval x = .pointer (some ⟨g, 0, none⟩)) (hy : a.eval y = .agg cells)
    {t : TypeId} {old : Array Value} (hg : Bx w g t old) (hi : (P.info? ty).map (·.size) = some cells.size) (hold : old.size = cells.size) (h1 : cells.all (·.oneCell') = true)
    (h : ∀ W, Bx W g t cells → Sets w W g → wpList P ops Q rest (a.put o.dst undef) W) : wpList P ops Q (o :: rest) a w :=
  wpList_plain hgd fun _ hK => wp_store_row ty x y ho g cells hx hy t old hg hi hold h1 (hK _ _ (h _ (setRow_heap w g old cells t (0, 0) hg)
    ⟨fun hb hB => below_setRow hb hB cells, fun hn hb => (setRow_other w g _ cells hn).trans hb⟩))
theorem wpList_storePart (hgd : o.guard = none) (ty : TypeId) (x y : Operand) (ho : o.op = .store ty x y) (g q : Nat) (cells : Array Value) (hx : a.eval x = .pointer (some ⟨g, q, none⟩)) (hy : a.eval y = .agg cells)
    {t : TypeId} {old : Array Value} (hg : Bx w g t old) (hi : (P.info? ty).map (·.size) = some cells.size) (hold : q + cells.size ≤ old.size) (h1 : cells.all (·.oneCell') = true)
    (h : ∀ W, Bx W g t (putL old q cells.toList) → Sets w W g → wpList P ops Q rest (a.put o.dst undef) W) : wpList P ops Q (o :: rest) a w := by
  refine wpList_store_mid hgd ty x y ho g q cells hx hy (fun j hj => ?_) hi h1 (h _ (hg.setCells _ _) ⟨fun hb hB => below_setCells hB _ _ _ hb, fun hn hb => setCells_far hn _ _ _ hb⟩)
  refine ⟨?_, hg.free _⟩
  rw [hg.cell, Array.getElem?_eq_getElem (by omega)]; rfl
theorem wpList_storeNew (hgd : o.guard = none) (ty : TypeId) (x y : Operand) (ho : o.op = .store ty x y) {w : World} {n : Nat} {zs : Array Value} (hn : w.heap.size = n) (cells : Array Value) (hx : a.eval x = .pointer (some ⟨n, 0, none⟩)) (hy : a.eval y = .agg cells)
    (hi : (P.info? ty).map (·.size) = some cells.size) (hold : zs.size = cells.size) (h1 : cells.all (·.oneCell') = true)
    (h : ∀ W, Bx W n ty cells → Below w.heap.size w W → wpList P ops Q rest (a.put o.dst undef) W) : wpList P ops Q (o :: rest) a (w.alloc (.cells zs ty)) := by
  subst hn
  refine wpList_storeRow hgd ty x y ho w.heap.size cells hx hy (Bx.new w ty zs) hi hold h1 fun W hW hS => h W hW (hS.1 ((Below.refl _ w).alloc (Nat.le_refl _) _) (Nat.le_refl _))
theorem wpList_loadRow (hgd : o.guard = none) (ty : TypeId) (x : Operand) (ho : o.op = .load ty x) (g : Nat) (hx : a.eval x = .pointer (some ⟨g, 0, none⟩)) {t : TypeId} {cs : Array Value} (hg : Bx w g t cs)
    (d : TypeDesc) (hu : P.underlying ty = some d) (hd : d.isRow = true) (hi : (P.info? ty).map (·.size) = some cs.size)
    (h : wpList P ops Q rest (a.put o.dst (.agg cs)) w) : wpList P ops Q (o :: rest) a w := by
  refine wpList_load_mid hgd ty x ho g 0 hx cs.toList d (fun j v hv => ?_) hu hd (by simpa using hi) (by simpa using h)
  rw [Nat.zero_add, hg.cell]; simpa using hv
/-- does the walk stand at this store, at this load? -/
theorem at_store (ty : TypeId) (x y : Nat) {t : TypeId} {p : String} {e : Array Edge} (h : wpList P ops Q (⟨none, .store ty (.tmp x) (.tmp y), t, p, e, none⟩ :: rest) a w) : wpList P ops Q (⟨none, .store ty (.tmp x) (.tmp y), t, p, e, none⟩ :: rest) a w := h
theorem at_load (d : Nat) (ty : TypeId) (x : Nat) {t : TypeId} {p : String} {e : Array Edge} (h : wpList P ops Q (⟨some d, .load ty (.tmp x), t, p, e, none⟩ :: rest) a w) : wpList P ops Q (⟨some d, .load ty (.tmp x), t, p, e, none⟩ :: rest) a w := h
theorem results_row {fn : Func} {p u : Tmp} {ty : TypeId} (h : fn.results = #[.cell p ty, .tmp u]) (tmps : Array Value) {g : Nat} (hp : tmps.getD p undef = .pointer (some ⟨g, 0, none⟩)) {t : TypeId} {cs : Array Value} (hg : Bx w g t cs)
    (d : TypeDesc) (hu : P.underlying ty = some d) (hd : d.isRow = true) (hi : (P.info? ty).map (·.size) = some cs.size) : (results fn tmps).run P w = .ok (.tuple #[.agg cs, tmps.getD u undef]) w := by
  have hl := run_loadVar_mid (P := P) w g 0 ty cs.toList d (fun j v hv => by rw [Nat.zero_add, hg.cell]; simpa using hv) hu hd (by simpa using hi)
  rw [results_cell_tmp h, hp]
  simp [asAddr, Result.andThen, hl]
end
end Go.Proofs.Ytodbbacmdjcheaa
namespace Go.Proofs.Ytodbbacmdjcheaa
open Go.RowKit
theorem grown_set (w : World) (p : Addr) (u : Value) : w.grownBy (w.setCell p u) (some p.block) :=
  ⟨rfl, rfl, rfl, by simp [World.setCell], fun k hk hne => Below.heap_setCell w p u k (fun e => hne (by rw [e]))⟩
theorem own_not_bx {w : World} {B e sz n p : Nat} {v : Value} {xs : List Value} {t : TypeId} {cs : Array Value} (h : w.ownsRow B e sz v n xs) (hg : Bx w p t cs) (hne : e ≠ t) : v.ownBlock = none ∨ v.ownBlock ≠ some p := by
  rcases h.2 with ⟨rfl, _⟩ | ⟨g, cap, cur, rfl, _, hgg, _⟩
  · exact .inl rfl
  · refine .inr ?_
    intro he
    simp [Value.ownBlock] at he
    subst he
    rw [Bx, hgg] at hg
    injection hg with hg
    injection hg with _ h2 _
    exact hne h2
theorem own_set {w : World} {B e sz n p i : Nat} {v u : Value} {xs : List Value} {t : TypeId} {cs : Array Value} (h : w.ownsRow B e sz v n xs) (hg : Bx w p t cs) (hne : e ≠ t) : (w.setCell ⟨p, i, none⟩ u).ownsRow B e sz v n xs :=
  World.ownsRow.kept h (grown_set w ⟨p, i, none⟩ u) (own_not_bx h hg hne)
theorem Bx.grown {w w' : World} {g : Nat} {t : TypeId} {cs : Array Value} {row : Option Nat} (h : Bx w g t cs) (hg : w.grownBy w' row) (hne : row = none ∨ row ≠ some g) : Bx w' g t cs := by
  have hl := h.lt
  unfold Bx at *
  rw [hg.block g hl (by
    rcases hne with rfl | h
    · simp
    · exact fun e => h e.symm)]
  exact h
theorem own_fresh {w : World} {B e sz n : Nat} {v : Value} {xs : List Value} (h : w.ownsRow B e sz v n xs) : v.ownBlock = none ∨ v.ownBlock ≠ some w.heap.size := by
  cases hv : v.ownBlock with
  | none => exact .inl rfl
  | some g => exact .inr (fun e => by injection e with e; have := (h.lt g hv).2; omega)
/-- a store below the base of a row -/
theorem own_apart {w : World} {B e sz n p i : Nat} {v u : Value} {xs : List Value} (h : w.ownsRow B e sz v n xs) (hp : p < B) : (w.setCell ⟨p, i, none⟩ u).ownsRow B e sz v n xs := by
  refine World.ownsRow.kept h (grown_set w ⟨p, i, none⟩ u) ?_
  cases hv : v.ownBlock with
  | none => exact .inl rfl
  | some g => exact .inr (fun e => by injection e with e; subst e; have := (h.lt g hv).1; omega)
/-- the blocks from lo to hi are as they were -/
def Mid (lo hi : Nat) (w w' : World) : Prop := ∀ k, lo ≤ k → k < hi → w'.heap[k]? = w.heap[k]?
theorem Mid.refl (lo hi : Nat) (w : World) : Mid lo hi w w := fun _ _ _ => rfl
theorem Mid.set {lo hi : Nat} {w w' : World} (h : Mid lo hi w w') {p : Addr} (hp : p.block < lo ∨ hi ≤ p.block) (u : Value) : Mid lo hi w (w'.setCell p u) := fun k h1 h2 =>
  (Below.heap_setCell w' p u k (by omega)).trans (h k h1 h2)
theorem Mid.grown {lo hi : Nat} {w w' w'' : World} {row : Option Nat} (h : Mid lo hi w w') (hs : hi ≤ w'.heap.size) (hg : w'.grownBy w'' row) (hr : ∀ k, row = some k → k < lo ∨ hi ≤ k) : Mid lo hi w w'' := fun k h1 h2 =>
  (hg.block k (by omega) (fun e => by have := hr k e.symm; omega)).trans (h k h1 h2)
theorem Mid.below {lo hi : Nat} {w w' w'' : World} (h : Mid lo hi w w') (hs : hi ≤ w'.heap.size) (hb : Below w'.heap.size w' w'') : Mid lo hi w w'' := fun k h1 h2 =>
  (hb.block k (by omega)).trans (h k h1 h2)
theorem own_mid {lo e sz n : Nat} {w w' : World} {v : Value} {xs : List Value} (h : w.ownsRow lo e sz v n xs) (hm : Mid lo w.heap.size w w') : w'.ownsRow lo e sz v n xs := by
  refine ⟨h.1, h.2.imp id ?_⟩
  rintro ⟨g, cap, cur, h1, h2, h3, h4⟩
  exact ⟨g, cap, cur, h1, h2, (hm g h2 (Array.getElem?_eq_some_iff.1 h3).1).trans h3, h4⟩
end Go.Proofs.Ytodbbacmdjcheaa
namespace Go.Proofs.Ytodbbacmdjcheaa
open Go.RowKit L02 L05 L06 L19
theorem putW_cut : ∀ (m l : List UInt64) (a : Nat), a + m.length ≤ l.length → putW l a m = l.take a ++ (m ++ l.drop (a + m.length))
  | [], l, a, h => by simp [putW]
  | x :: xs, l, a, h => by
    rw [List.length_cons] at h
    rw [putW, putW_cut xs _ _ (by rw [List.length_set]; omega), List.length_cons]
    rw [List.take_succ_eq_append_getElem (by rw [List.length_set]; omega), List.getElem_set_self, List.take_set_of_le (Nat.le_refl a), List.drop_set_of_lt (by omega), List.append_assoc, List.singleton_append, List.cons_append, show a + 1 + xs.length = a + (xs.length + 1) by omega]
theorem spl_put {l m : List UInt64} {a : Nat} (h : a + m.length ≤ l.length) : splice (l.map u64) a (m.map u64) = (putW l a m).map u64 := by
  rw [putW_cut _ _ _ h]
  unfold splice
  rw [List.map_append, List.map_append, List.map_take, List.map_drop, List.length_map]
set_option maxRecDepth 100000 in
set_option maxHeartbeats 2000000 in
theorem put_any (v sv : Value) (l m : List UInt64) (a B : Nat) (hm : a + m.length ≤ l.length) (w : World) (o : OwnW w B 64 v l) (hs : Rd w 1 sv m.length (m.map u64)) (hB : B ≤ w.heap.size) :
    Calls Try.prog 28 #[v, .int .i64 a, sv] w fun e w' => (∃ u, e = .returned u) ∧ OwnW w' B 64 v (putW l a m) ∧ Below B w w' ∧ w.grownBy w' v.ownBlock := by
  obtain ⟨dv, sl, cut⟩ := own_cutFrom (P := Try.prog) o Try.underlying25 one_u64 (lo := (a : Int)) (by omega) (by omega)
  have sl' : ∀ W, (Instr.sliceAt 25 v (some (.int .i64 a)) none none).run Try.prog W = .ok dv W := sl
  obtain ⟨w', hrun, h2, h3⟩ := run_copy_own (P := Try.prog) (sT := 25) (ty := 3) Try.underlying25 one_u64 o cut hs (one_u64s _)
  clear sl
  have hrun' := Lib.hid hrun; have H2 := Lib.hid h2; have H3 := Lib.hid h3; have HM := Lib.hid hm
  have BB := Lib.hid ((Below.refl B w).grown h3 hB fun k hk => (o.lt k hk).1)
  clear hrun h2 h3 hm o hs cut hB
  go_enter Try.func28, Try.ntmps28
  go_wp2_with fail
  rw [hrun'.out, Result.andThen_ok]
  go_wp2
  refine bodyPost_end (results_none rfl _ _ _) rfl ⟨⟨_, rfl⟩, OwnW.of H2.out ?_, BB.out, H3.out⟩
  have := HM.out
  rw [List.take_of_length_le (by rw [List.length_map]; simp; omega), Int.toNat_natCast, spl_put (by omega)]
end Go.Proofs.Ytodbbacmdjcheaa
namespace Go.Proofs.Ytodbbacmdjcheaa.RF
open Go.RowKit
/-- what the body of a round must leave -/
def rdE (B : Nat) (X : World) (J : World → Prop) : Exit → Act → World → Prop
  | .normal, _, W => KeepsFrom B X W ∧ J W
  | _, _, _ => False
theorem keeps_below {B : Nat} {X Y : World} (h : Below X.heap.size X Y) : KeepsFrom B X Y :=
  ⟨h.size, fun k o _ hk _ => (h.block k (Array.getElem?_eq_some_iff.1 hk).1).trans hk⟩
theorem keeps_set {B : Nat} (X : World) (a : Addr) (u : Value) : KeepsFrom B X (X.setCell a u) := (KeepsOthers.setCell _ _ _).from _
theorem put_below {X : World} {n l : Nat} (o : Obj) (h : n ≤ l) : Below n X (X.putObj l o) :=
  ⟨rfl, rfl, rfl, by simp, fun k hk => World.putObj_heap_other (by omega)⟩
theorem wpIn_rangeE {P : Program} {m : Nat} {g : Operand} {ps : Array Tmp} {assign body : Code} {Q : Exit → Act → World → Prop} {a : Act} {w : World}
    {gf : Nat} {lb : Array Value} (hg : a.eval g = .func (.func gf) #[] lb) (eg : ∀ args w, (callFunc gf args).run P w = .ok (.enter gf args) w)
    (J : Nat → World → Prop) (hJ : ∀ k A B, J k A → Below w.heap.size A B → J k B) (h0 : J 0 w) (N : Nat)
    (encs : Nat → Array Value) (hps : ∀ k, (encs k).size = ps.size) (R : Nat → World → World → Prop)
    (hR : ∀ k A B, J k A → R k A B → KeepsFrom w.heap.size A B)
    (hcall : ∀ (l : Nat) (J' : Nat → World → Prop) (W : World), (∀ k A, J' k A → J k A) → (∀ k A B, J' k A → Below A.heap.size A B → J' k B) →
      (∀ k A, J' k A → k < N → YieldAt Fence.wide (m - 1 - 1) P l (encs k) A fun e W' => e = .returned (.bool true) ∧ J' (k + 1) W') → J' 0 W →
      CallsIn Fence.wide (m - 1) P gf (#[.func (.yield l) #[] #[]] ++ lb) W fun e W' => (∃ v, e = .returned v) ∧ ∃ k A, J' k A ∧ R k A W')
    (hround : ∀ (l k : Nat) (A : World), w.heap.size < l → l < A.heap.size → J k A → k < N →
      assign.wpIn (Fence.wide.inRound l) (m - 1 - 1) P (Exit.then (fun a₁ W₁ => KeepsFrom w.heap.size A W₁ ∧
          ∀ r, body.wpIn (Fence.wide.inRound l) (m - 1 - 1) P (rdE w.heap.size (W₁.putObj l (.loop r)) (J (k + 1))) a₁ (W₁.putObj l (.loop r))) (fun _ _ _ => False))
        { tmps := (ps.zip (encs k)).foldl (fun t (p, v) => t.setIfInBounds p v) a.tmps, defers := [] } A)
    (hdone : ∀ (k : Nat) (A B : World) (r : Loop), J k A → R k A B → w.heap.size + 1 < A.heap.size → B.heap[w.heap.size]? = some (.deferred (some [])) →
      Q .normal { a with defers := { target := .collected w.heap.size, args := #[] } :: a.defers } (B.putObj (w.heap.size + 1) (.loop r))) :
    (Code.rangeFunc g ps assign body).wpIn Fence.wide m P Q a w := by
  refine wpIn_rangeFunc ?_
  intro fn hfn
  rw [show Fence.wide.round = none from rfl]
  obtain ⟨rec, hrec⟩ : ∃ rec : LoopState → Option Code → Loop, rec = fun st pe => { state := st, pending := pe, fn, tmps := a.tmps, params := ps, assign, body, defers := w.heap.size } := ⟨_, rfl⟩
  obtain ⟨W1, hW1⟩ : ∃ W1, (w.alloc (.deferred (some []))).alloc (.loop (rec .ready none)) = W1 := ⟨_, rfl⟩
  have hL1 : W1.heap[w.heap.size + 1]? = some (.loop (rec .ready none)) := by
    rw [← hW1]; have := World.alloc_heap_new (w.alloc (.deferred (some []))) (.loop (rec .ready none)); rwa [World.size_alloc] at this
  have hK1 : W1.heap[w.heap.size]? = some (.deferred (some [])) := by
    rw [← hW1]; exact (Below.heap_alloc _ _ _ (by simp)).trans (World.alloc_heap_new w _)
  have hb1 : Below w.heap.size w W1 := by
    rw [← hW1]; exact ((Below.refl _ w).alloc (Nat.le_refl _) _).alloc (by simp) _
  refine ⟨w.heap.size + 1, [{ target := .collected w.heap.size, args := #[] }], W1, { target := .fn (.func gf) lb, args := #[.func (.yield (w.heap.size + 1)) #[] #[]] }, W1, gf,
    #[.func (.yield (w.heap.size + 1)) #[] #[]] ++ lb, W1, ?_, ?_, ?_, ?_, fun h => by simp [Fence.wide] at h, ?_⟩
  · rw [← hW1, hrec]; exact run_enterLoop_outer _ _ _ _ _
  · simp only [resolve, hg]
    simp [go_sem]
  · intro f' hf'; exact trivial
  · simp [invoke, go_sem, eg]
  · refine (hcall (w.heap.size + 1)
      (fun k W => J k W ∧ W.heap[w.heap.size + 1]? = some (.loop (rec .ready none)) ∧ W.heap[w.heap.size]? = some (.deferred (some []))) W1
      (fun k A h => h.1) ?_ ?_ ⟨hJ 0 w W1 h0 hb1, hL1, hK1⟩).mono ?_
    · rintro k A B ⟨hj, hl, hk⟩ hb
      have hlt := (Array.getElem?_eq_some_iff.1 hl).1
      exact ⟨hJ k A B hj (hb.mono (by omega)), (hb.block _ hlt).trans hl, (hb.block _ (by omega)).trans hk⟩
    · rintro k A ⟨hj, hl, hk⟩ hkN
      have hlt := (Array.getElem?_eq_some_iff.1 hl).1
      have hy := run_yield (P := P) (args := encs k) hl (by rw [hrec]; exact hps k)
      rw [hrec] at hy
      refine ⟨fn, _, assign, body, hy, roundIn_of_wpIn hfn (wpIn_mono (hround (w.heap.size + 1) k A (by omega) hlt hj hkN) ?_)⟩
      clear hy
      rintro e a₁ Wa hp
      cases e with
      | normal =>
        obtain ⟨hkf, hbody⟩ := hp
        have hl' := hkf.same _ _ (by omega) hl rfl
        have hk' := hkf.same _ _ (Nat.le_refl _) hk rfl
        have hlt' : w.heap.size + 1 < Wa.heap.size := (Array.getElem?_eq_some_iff.1 hl').1
        refine ⟨_, run_beginRound hl' (by rw [hrec]), ?_⟩
        have hl2 : (Wa.putObj (w.heap.size + 1) (.loop { rec .ready none with state := .busy })).heap[w.heap.size + 1]? = some (.loop { rec .ready none with state := .busy }) := World.putObj_heap_same hlt'
        have hk2 : (Wa.putObj (w.heap.size + 1) (.loop { rec .ready none with state := .busy })).heap[w.heap.size]? = some (.deferred (some [])) := (World.putObj_heap_other (by omega)).trans hk'
        refine wpIn_mono (hbody _) ?_
        rintro e a3 W3 hp
        cases e with
        | normal =>
          obtain ⟨hk3, hj3⟩ := hp
          have hl3 := hk3.same _ _ (by omega) hl2 rfl
          have hr := run_endRound (P := P) none hl3
          refine ⟨_, _, hr, rfl, hJ _ _ _ hj3 (put_below _ (by omega)), ?_, ?_⟩
          · rw [World.putObj_heap_same (Array.getElem?_eq_some_iff.1 hl3).1, hrec]; rfl
          · exact (World.putObj_heap_other (by omega)).trans (hk3.same _ _ (Nat.le_refl _) hk2 rfl)
        | _ => exact hp.elim
      | _ => exact hp.elim
    · rintro e W2 ⟨⟨v, rfl⟩, k, A, ⟨hj, hl, hk⟩, hr⟩
      have hkf := hR k A W2 hj hr
      have hl' := hkf.same _ _ (by omega) hl rfl
      have := run_endLoop (P := P) hl' (by rw [hrec]; simp)
      rw [hrec] at this
      exact ⟨none, _, this, hdone k A W2 _ hj hr (Array.getElem?_eq_some_iff.1 hl).1 (hkf.same _ _ (Nat.le_refl _) hk rfl)⟩
end Go.Proofs.Ytodbbacmdjcheaa.RF
namespace Go.Proofs.Ytodbbacmdjcheaa
open Go.RowKit
def u8 (x : UInt8) : Value := .int .u8 x.toNat
def Byts (w : World) (v : Value) (l : List UInt8) : Prop := Rd w 1 v l.length (l.map u8)
def OwnB (w : World) (base E : Nat) (v : Value) (l : List UInt8) : Prop := w.ownsRow base E 1 v l.length (l.map u8)
theorem one_u8 : (Try.prog.info? 5).map (·.size) = some 1 := by kernel_rfl
theorem info_u8 : (Try.prog.info? 5).map (fun i => (i.zero, i.size, i.bytes)) = some (some (.int .u8 0), 1, 1) := by kernel_rfl
theorem one_u8s (l : List UInt8) : ∀ u ∈ l.map u8, u.oneCell' = true := by
  intro u hu; obtain ⟨x, _, rfl⟩ := List.mem_map.1 hu; rfl
section
variable {P : Program} {w w' : World} {v : Value} {l : List UInt8} {base E : Nat}
theorem OwnB.rd (h : OwnB w base E v l) : Byts w v l := Rd.of_own h
theorem Byts.below (h : Byts w v l) (hb : Below w.heap.size w w') : Byts w' v l := Rd.below h hb
theorem Byts.alloc (h : Byts w v l) (o : Obj) : Byts (w.alloc o) v l := Rd.alloc h o
theorem OwnB.below (h : OwnB w base E v l) (hb : Below w.heap.size w w') : OwnB w' base E v l := own_below h hb
theorem OwnB.nil (w : World) (base E : Nat) : OwnB w base E (.slice none 0 0) [] := World.ownsRow_nil w base E 1
theorem Byts.nil (w : World) : Byts w (.slice none 0 0) [] := Rd.nil w 1
theorem OwnB.of {n : Nat} {xs : List Value} (h : w.ownsRow base E 1 v n xs) (hx : xs = l.map u8) : OwnB w base E v l := by
  subst hx
  have hn : n = l.length := by have := h.1; simp at this; omega
  subst hn; exact h
theorem Byts.at_ {t e : TypeId} (h : Byts w v l) (ht : P.underlying t = some (.slice e)) (hi : (P.info? e).map (·.size) = some 1) {k : Nat} (hk : k < l.length) :
    ∃ ad x, (∀ W, (Instr.indexAt t v (.int .i64 (k : Int))).run P W = .ok (.pointer (some ad)) W) ∧ w.cell? ad = some (.int .u8 (UInt8.toNat x)) ∧ Hid (l[k]? = some x) :=
  ⟨_, l[k], fun W => Rd.ixN h ht hi hk W, by rw [Nat.mul_one]; exact Rd.cell h (by simp [hk]; rfl), by unfold Hid; simp [hk]⟩
/-- a literal of bytes -/
theorem lit_byts {w : World} {cs : Array Value} {e n m : Nat} (l : List UInt8) (hn : w.heap.size = n) (h : cs.toList = l.map u8) (hm : m = l.length) (hl : l.length ≤ 1048576) : Byts (w.alloc (.cells cs e)) (.slice (some ⟨n, 0, none⟩) m m) l := by
  subst hn
  have hs : cs.size = m := by rw [← Array.length_toList, h]; simp [hm]
  have := lit_rdN (w := w) (e := e) hs (by omega)
  rw [h] at this
  subst hm; exact this
end
end Go.Proofs.Ytodbbacmdjcheaa
namespace Go.Proofs.Ytodbbacmdjcheaa
open Go.RowKit
theorem wrap_u64 (n : Int) : IntKind.u64.wrap n = n % 18446744073709551616 := by
  simp [IntKind.wrap, IntKind.signed, IntKind.bits]
theorem toNat_lt (a : UInt64) : a.toNat < 18446744073709551616 := a.toNat_lt
theorem bits_xor_u64n {a b : Nat} (ha : a < 18446744073709551616) (hb : b < 18446744073709551616) : bits .xor .u64 (a : Int) (b : Int) = ((a ^^^ b : Nat) : Int) := by
  show IntKind.u64.wrap ((BitVec.ofInt 64 (a : Int) ^^^ BitVec.ofInt 64 (b : Int)).toNat : Int) = _
  rw [BitVec.toNat_xor, BitVec.ofInt_natCast, BitVec.ofInt_natCast, BitVec.toNat_ofNat, BitVec.toNat_ofNat, Nat.mod_eq_of_lt ha, Nat.mod_eq_of_lt hb, wrap_u64]
  have : a ^^^ b < 2 ^ 64 := Nat.xor_lt_two_pow (by omega) (by omega)
  omega
theorem bits_or_u64n {a b : Nat} (ha : a < 18446744073709551616) (hb : b < 18446744073709551616) : bits .or .u64 (a : Int) (b : Int) = ((a ||| b : Nat) : Int) := by
  show IntKind.u64.wrap ((BitVec.ofInt 64 (a : Int) ||| BitVec.ofInt 64 (b : Int)).toNat : Int) = _
  rw [BitVec.toNat_or, BitVec.ofInt_natCast, BitVec.ofInt_natCast, BitVec.toNat_ofNat, BitVec.toNat_ofNat, Nat.mod_eq_of_lt ha, Nat.mod_eq_of_lt hb, wrap_u64]
  have : a ||| b < 2 ^ 64 := Nat.or_lt_two_pow (by omega) (by omega)
  omega
theorem bits_and_u64n {a b : Nat} (ha : a < 18446744073709551616) (hb : b < 18446744073709551616) : bits .and .u64 (a : Int) (b : Int) = ((a &&& b : Nat) : Int) := by
  show IntKind.u64.wrap ((BitVec.ofInt 64 (a : Int) &&& BitVec.ofInt 64 (b : Int)).toNat : Int) = _
  rw [BitVec.toNat_and, BitVec.ofInt_natCast, BitVec.ofInt_natCast, BitVec.toNat_ofNat, BitVec.toNat_ofNat, Nat.mod_eq_of_lt ha, Nat.mod_eq_of_lt hb, wrap_u64]
  have : a &&& b < 2 ^ 64 := Nat.and_lt_two_pow _ (by omega)
  omega
/-- 'or' of parts that lie apart is their sum; 'and' with a mask is a remainder. -/
theorem or_int {a b : Int} (k : Nat) (c : Nat) (h0 : 0 ≤ a) (ha : a < ((2 ^ k : Nat) : Int)) (hb : b = ((2 ^ k * c : Nat) : Int)) (hk : a < 18446744073709551616) (hl : b < 18446744073709551616) : bits .or .u64 a b = a + b := by
  obtain ⟨n, rfl⟩ := Int.eq_ofNat_of_zero_le h0
  subst hb
  have hn : n < 2 ^ k := by exact_mod_cast ha
  rw [bits_or_u64n (by omega) (by omega), Nat.or_comm, ← Nat.two_pow_add_eq_or_of_lt hn]
  omega
theorem and_int {a : Int} (k : Nat) (h0 : 0 ≤ a) (ha : a < 18446744073709551616) (m : Int) (hm : m = ((2 ^ k - 1 : Nat) : Int)) (hl : m < 18446744073709551616) : bits .and .u64 a m = a % ((2 ^ k : Nat) : Int) := by
  obtain ⟨n, rfl⟩ := Int.eq_ofNat_of_zero_le h0
  subst hm
  rw [bits_and_u64n (by omega) (by omega), Nat.and_two_pow_sub_one_eq_mod]
  exact Int.natCast_emod n (2 ^ k)
end Go.Proofs.Ytodbbacmdjcheaa
namespace Go.Proofs.Ytodbbacmdjcheaa
open Go.RowKit L05
/-- The eight bytes of a word, as an array. -/
def bytesV (x : UInt64) : Array Value := #[.int .u8 (x.toNat % 256), .int .u8 (x.toNat / 256 % 256), .int .u8 (x.toNat / 65536 % 256), .int .u8 (x.toNat / 16777216 % 256), .int .u8 (x.toNat / 4294967296 % 256),
  .int .u8 (x.toNat / 1099511627776 % 256), .int .u8 (x.toNat / 281474976710656 % 256), .int .u8 (x.toNat / 72057594037927936)]
set_option maxHeartbeats 1000000 in
theorem Bytes_any (x : UInt64) (w : World) : Calls Try.prog 100 #[.int .u64 x.toNat] w fun e w' => e = .returned (.agg (bytesV x)) ∧ Below w.heap.size w w' := by
  have hx := toNat_lt x
  go_enter Try.func100, Try.ntmps100
  go_wp2
  refine wp_loop_rounds 9 ?_
  iterate 9 (rw [rounds_succ]; go_wp2)
  refine bodyPost_ret (v := .agg (bytesV x)) ?_ rfl ⟨rfl, ?_⟩
  · simp [results, Try.results100, go_sem, bytesV]
  · exact (((Below.refl _ _).alloc (Nat.le_refl _) _).alloc (by simp) _)
theorem bytesV_ix0 (x : UInt64) (W : World) : (Instr.index 181 (.agg (bytesV x)) (.int .i64 ((0 : Nat) : Int))).run Try.prog W = .ok (.int .u8 ((x.toNat : Int) % 256)) W := by kernel_rfl
theorem bytesV_ix1 (x : UInt64) (W : World) : (Instr.index 181 (.agg (bytesV x)) (.int .i64 ((1 : Nat) : Int))).run Try.prog W = .ok (.int .u8 ((x.toNat : Int) / 256 % 256)) W := by kernel_rfl
theorem bytesV_ix2 (x : UInt64) (W : World) : (Instr.index 181 (.agg (bytesV x)) (.int .i64 ((2 : Nat) : Int))).run Try.prog W = .ok (.int .u8 ((x.toNat : Int) / 65536 % 256)) W := by kernel_rfl
theorem bytesV_ix3 (x : UInt64) (W : World) : (Instr.index 181 (.agg (bytesV x)) (.int .i64 ((3 : Nat) : Int))).run Try.prog W = .ok (.int .u8 ((x.toNat : Int) / 16777216 % 256)) W := by kernel_rfl
theorem bytesV_ix4 (x : UInt64) (W : World) : (Instr.index 181 (.agg (bytesV x)) (.int .i64 ((4 : Nat) : Int))).run Try.prog W = .ok (.int .u8 ((x.toNat : Int) / 4294967296 % 256)) W := by kernel_rfl
theorem bytesV_ix5 (x : UInt64) (W : World) : (Instr.index 181 (.agg (bytesV x)) (.int .i64 ((5 : Nat) : Int))).run Try.prog W = .ok (.int .u8 ((x.toNat : Int) / 1099511627776 % 256)) W := by kernel_rfl
theorem bytesV_ix6 (x : UInt64) (W : World) : (Instr.index 181 (.agg (bytesV x)) (.int .i64 ((6 : Nat) : Int))).run Try.prog W = .ok (.int .u8 ((x.toNat : Int) / 281474976710656 % 256)) W := by kernel_rfl
theorem bytesV_ix7 (x : UInt64) (W : World) : (Instr.index 181 (.agg (bytesV x)) (.int .i64 ((7 : Nat) : Int))).run Try.prog W = .ok (.int .u8 ((x.toNat : Int) / 72057594037927936)) W := by kernel_rfl
theorem bytesV_ix (x : UInt64) {k : Nat} (hk : k < 8) (W : World) : (Instr.index 181 (.agg (bytesV x)) (.int .i64 (k : Int))).run Try.prog W = .ok (.int .u8 ((byteAt x k).toNat : Int)) W := by
  rw [byteAt_nat]
  have hx := toNat_lt x
  match k, hk with
  | 0, _ => rw [bytesV_ix0]; exact congrArg (fun n => Result.ok (Value.int .u8 n) W) (by simp only [show (256 : Nat) ^ 0 = 1 from rfl]; omega)
  | 1, _ => rw [bytesV_ix1]; exact congrArg (fun n => Result.ok (Value.int .u8 n) W) (by simp only [show (256 : Nat) ^ 1 = 256 from rfl]; omega)
  | 2, _ => rw [bytesV_ix2]; exact congrArg (fun n => Result.ok (Value.int .u8 n) W) (by simp only [show (256 : Nat) ^ 2 = 65536 from rfl]; omega)
  | 3, _ => rw [bytesV_ix3]; exact congrArg (fun n => Result.ok (Value.int .u8 n) W) (by simp only [show (256 : Nat) ^ 3 = 16777216 from rfl]; omega)
  | 4, _ => rw [bytesV_ix4]; exact congrArg (fun n => Result.ok (Value.int .u8 n) W) (by simp only [show (256 : Nat) ^ 4 = 4294967296 from rfl]; omega)
  | 5, _ => rw [bytesV_ix5]; exact congrArg (fun n => Result.ok (Value.int .u8 n) W) (by simp only [show (256 : Nat) ^ 5 = 1099511627776 from rfl]; omega)
  | 6, _ => rw [bytesV_ix6]; exact congrArg (fun n => Result.ok (Value.int .u8 n) W) (by simp only [show (256 : Nat) ^ 6 = 281474976710656 from rfl]; omega)
  | 7, _ => rw [bytesV_ix7]; exact congrArg (fun n => Result.ok (Value.int .u8 n) W) (by simp only [show (256 : Nat) ^ 7 = 72057594037927936 from rfl]; omega)
theorem fnv_walk (s : UInt64) (q : UInt8) : IntKind.u64.wrap (bits .xor .u64 (s.toNat : Int) (IntKind.u64.wrap (q.toNat : Int)) * 1099511628211) = ((fnv s q).toNat : Int) := by
  have hq := q.toNat_lt
  rw [wrap_u64 (q.toNat : Int), show (q.toNat : Int) % 18446744073709551616 = (q.toNat : Int) by omega, bits_xor_u64n (toNat_lt s) (by omega), wrap_u64, fnv_nat]
  omega
set_option maxHeartbeats 1000000 in
theorem Next_any (s : UInt64) (v : Value) (l : List UInt64) (w : World) (h : Words w v l) (hl : l.length ≤ 2048) :
    Calls Try.prog 89 #[.int .u64 s.toNat, v] w fun e w' => e = .returned (.tuple #[.int .u64 (behind s l).toNat, .int .i64 0]) ∧ Below w.heap.size w w' := by
  have l1 := Rd.len h Try.underlying25
  obtain ⟨N, hN⟩ : ∃ N, N = l.length := ⟨_, rfl⟩
  rw [← hN] at l1 hl
  have HN := Lib.hid hN; have H := Lib.hid h; have B : Below w.heap.size w w := Below.refl _ _
  clear hN h
  go_enter Try.func89, Try.ntmps89
  go_wp2
  go_loopw [0, 15] (fun st i wr => ∃ k : Nat, k ≤ N ∧ i = .int .i64 k ∧ st = .int .u64 (behind s (l.take k)).toNat ∧ Below w.heap.size w wr) (fun _ i _ => N - (intOf i).toNat)
  case atStart => exact ⟨0, Nat.zero_le _, rfl, rfl, B⟩
  case round =>
    obtain ⟨k, hk, rfl, rfl, hbel⟩ := hrel
    by_cases hlt : k < N
    · obtain ⟨ad, x, ia, ca, hx⟩ := (H.out.below hbel).at_ Try.underlying25 one_u64 (k := k) (by have := HN.out; omega)
      have HB := Lib.hid hbel; clear hbel
      go_wp2_with fail
      refine (Bytes_any _ _).mono ?_
      rintro e w2 ⟨rfl, b⟩
      have B2 := HB.out.trans (b.mono HB.out.size)
      have HB2 := Lib.hid B2; clear b B2
      obtain ⟨s0, hs0⟩ : ∃ s0, s0 = behind s (l.take k) := ⟨_, rfl⟩
      rw [← hs0]
      have HS := Lib.hid hs0; clear hs0
      obtain ⟨V, hV⟩ : ∃ V, V = bytesV x := ⟨_, rfl⟩
      rw [← hV]
      have HV := Lib.hid hV; clear hV
      go_wp2
      go_loop [0, 21] (fun st j => ∃ m : Nat, m ≤ 8 ∧ j = .int .i64 m ∧ st = .int .u64 (wordTo s0 x m).toNat) (fun _ j => 8 - (intOf j).toNat)
      case atStart => exact ⟨0, by omega, rfl, rfl⟩
      case round =>
        obtain ⟨m, hm, rfl, rfl⟩ := hrel
        by_cases hm8 : m < 8
        · have hix := bytesV_ix x hm8
          rw [← HV.out] at hix
          obtain ⟨q, hq⟩ : ∃ q, q = byteAt x m := ⟨_, rfl⟩
          rw [← hq] at hix
          obtain ⟨s1, hs1⟩ : ∃ s1, s1 = wordTo s0 x m := ⟨_, rfl⟩
          rw [← hs1]
          have hstep : wordTo s0 x (m + 1) = fnv s1 q := by rw [wordTo, hs1, hq]
          have HST := Lib.hid hstep; clear hstep hs1 hq
          go_wp2
          go_roundw
          case rel => exact ⟨m + 1, by omega, by go_num, by rw [HST.out, fnv_walk]⟩
          case measure => simp [intOf]; omega
        · obtain rfl : m = 8 := by omega
          go_wp2
          go_roundw
          case rel => exact ⟨k + 1, by omega, by go_num, by rw [behind_take hx.out, ← HS.out]; rfl, HB2.out⟩
          case measure => simp [intOf]; omega
    · obtain rfl : k = N := by omega
      have HB := Lib.hid hbel; clear hbel
      go_wp2
      go_ret2
      refine ⟨by rw [HN.out, List.take_length]; rfl, HB.out⟩
theorem Of_any (v : Value) (l : List UInt64) (w : World) (h : Words w v l) (hl : l.length ≤ 2048) :
    Calls Try.prog 67 #[v] w fun e w' => e = .returned (.tuple #[.int .u64 (sum l).toNat, .int .i64 0]) ∧ Below w.heap.size w w' := by
  have hN := Next_any first v l w h hl
  rw [first_nat] at hN
  have HN := Lib.hid hN; clear hN
  obtain ⟨S, hS⟩ : ∃ S, S = sum l := ⟨_, rfl⟩
  rw [← hS]
  have HS := Lib.hid hS; clear hS
  go_enter Try.func67, Try.ntmps67
  go_wp2_with fail
  refine (HN.out).mono ?_
  rw [show behind first l = S from HS.out.symm]
  rintro e w' ⟨rfl, b⟩
  go_wp2
  go_ret2
  exact ⟨rfl, b⟩
end Go.Proofs.Ytodbbacmdjcheaa
