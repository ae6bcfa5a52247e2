/- Laws for make, copy and append on rows of the call's own, in the form in which the walks of this seat use them. -/
import Derived.Test.YtgjpohhafmkhcaaBase
set_option linter.unusedVariables false
set_option linter.unusedSimpArgs false
namespace Go.Proofs.Ytgjpohhafmkhcaa
open Go.RowKit

section
variable {P : Program} {ops : Array Oper} {rest : List Oper} {o : Oper} {a : Act} {Q : Exit → Act → World → Prop} {w : World}

theorem info3 {e : TypeId} {z : Value} {sz by_ : Nat} (hi : (P.info? e).map (fun i => (i.zero, i.size, i.bytes)) = some (some z, sz, by_)) :
    ∃ i, P.info? e = some i ∧ i.zero = some z ∧ i.size = sz ∧ i.bytes = by_ := by
  obtain ⟨i, h1, h2⟩ := Option.map_eq_some_iff.1 hi
  simp only [Prod.mk.injEq] at h2
  exact ⟨i, h1, h2.1, h2.2.1, h2.2.2⟩

theorem wpList_wanted (hw : Region.wanted o (yielded ops a.tmps) = true) (h : ∀ K : Act → World → Prop, (∀ a w, wpList P ops Q rest a w → K a w) → o.wp P a w K Q) : wpList P ops Q (o :: rest) a w := by
  unfold wpList
  rw [if_pos hw]
  exact .inl (h _ fun _ _ h => h)

theorem wpList_builtin2 (hgd : Region.wanted o (yielded ops a.tmps) = true) {b : Builtin} {d s : Operand} {ats : Array TypeId} (ho : o.op = .call { callee := .builtin b, args := #[d, s], argTypes := ats })
    {dv sv : Value} (hd : a.eval d = dv) (hs : a.eval s = sv) {v : Value} {w' : World}
    (hrun : ∀ cs, (builtin b ats o.type cs #[dv, sv]).run P w = .ok (.value v) w') (h : wpList P ops Q rest (a.put o.dst v) w') : wpList P ops Q (o :: rest) a w := by
  refine wpList_wanted hgd fun K hK => ?_
  unfold Oper.wp
  simp [execOp, ho, resolve, invoke, hd, hs, hrun]
  exact hK _ _ h

/-- The cell behind an own row, whole. -/
theorem own_form {B e sz n : Nat} {v : Value} {xs : List Value} (h : w.ownsRow B e sz v n xs) (hn : 0 < n) :
    ∃ g cap cur, v = .slice (some ⟨g, 0, none⟩) n cap ∧ B ≤ g ∧ w.heap[g]? = some (.cells cur e (0, 0)) ∧ n ≤ cap ∧ cap ≤ maxLen ∧ cur.size = cap * sz ∧ cur.toList.take (n * sz) = xs := by
  rcases h.2 with ⟨_, h0⟩ | h0
  · omega
  · exact h0

theorem splice_take {α : Type} (L : List α) (off n : Nat) (cs : List α) (h : off + cs.length ≤ n) (hL : off ≤ L.length) : splice (L.take n) off cs = (splice L off cs).take n := by
  unfold splice
  have h1 : (L.take off).length = off := by rw [List.length_take]; omega
  rw [List.take_append, h1, List.take_append, List.take_take, List.take_take, List.drop_take, Nat.min_eq_left (by omega), Nat.min_eq_right (by omega : off ≤ n), List.take_of_length_le (l := cs) (by omega)]
  congr 3
  omega

/-- dv is v[off : off+k] (one cell each). -/
def CutOf (v : Value) (off k : Nat) (dv : Value) : Prop := ∃ A n c, v = .slice A n c ∧ off + k ≤ n ∧ n ≤ c ∧ dv = .slice (if c = off then A else A.map (·.add off)) k (c - off)
theorem CutOf.all {w : World} {B e n : Nat} {v : Value} {xs : List Value} (h : w.ownsRow B e 1 v n xs) : CutOf v 0 n v := by
  rcases h.2 with ⟨rfl, rfl⟩ | ⟨g, cap, cur, rfl, _, _, hc, _⟩
  · exact ⟨none, 0, 0, rfl, by omega, by omega, rfl⟩
  · refine ⟨_, _, _, rfl, by omega, hc, ?_⟩
    split <;> simp [Addr.add]

theorem run_copy_own {dT sT ty e B : Nat} {v dv sv : Value} {n off k m : Nat} {xs ys : List Value} (hu : P.underlying dT = some (.slice e)) (hsz : (P.info? e).map (·.size) = some 1)
    (hown : w.ownsRow B e 1 v n xs) (hd : CutOf v off k dv) (hs : Rd w 1 sv m ys) (h1 : ∀ u ∈ ys, u.oneCell' = true) :
    ∃ w', (Builtin.copy_ #[dT, sT] ty #[dv, sv]).run P w = .ok (.int .i64 (min m k : Nat)) w' ∧ w'.ownsRow B e 1 v n (splice xs off (ys.take k)) ∧ w.grownBy w' v.ownBlock := by
  obtain ⟨A, n', c, hv, hk, hn', rfl⟩ := hd
  obtain ⟨SA, sc, rfl, s1, s2, s3, s4, s5⟩ := hs
  have s3 : ys.length = m := by omega
  have hxl : xs.length = n := by have := hown.1; omega
  have hnn : n' = n := by
    rcases hown.2 with ⟨h, h'⟩ | ⟨g, cap, cur, h, _⟩ <;> rw [hv] at h <;> simp at h <;> omega
  subst hnn
  by_cases h0 : min m k = 0
  · refine ⟨w, ?_, ?_, World.grownBy.refl w _⟩
    · rw [h0]
      exact run_copy_none w dT sT ty e _ SA k _ m sc hu hsz h0
    · have : ys.take k = [] := by apply List.eq_nil_of_length_eq_zero; rw [List.length_take]; omega
      rw [this]; simpa [splice] using hown
  · have hm : 0 < m := by omega
    have hk0 : 0 < k := by omega
    obtain ⟨g, cap, cur, hv', hB, hg, hnc, hcm, hcs, htake⟩ := own_form hown (by omega)
    rw [hv] at hv'
    simp at hv'
    obtain ⟨rfl, rfl⟩ := hv'
    rcases SA with _ | sa
    · have := s4 rfl; omega
    obtain ⟨p1, p2, p3⟩ := s5 hm sa rfl
    have hdst : (if c = off then (some ⟨g, 0, none⟩ : Option Addr) else (some (⟨g, 0, none⟩ : Addr)).map (·.add off)) = some ⟨g, off, none⟩ := by
      rw [if_neg (by omega)]; simp [Addr.add]; intro h; exact h.symm
    have hsrc : ∀ j u, (ys.take k)[j]? = some u → w.cell? (sa.add j) = some u := by
      intro j u hu
      rw [List.getElem?_take] at hu
      split at hu
      · obtain ⟨b, q, s⟩ := sa
        simp at p1; subst p1
        have := p3 j u hu
        rw [show ((⟨b, q, none⟩ : Addr).add j) = ⟨b, q + j, none⟩ by unfold Addr.add; split <;> simp_all]
        exact this
      · cases hu
    have hlen : (ys.take k).length = min m k := by rw [List.length_take, s3, Nat.min_comm]
    have hrun := run_copy_row (P := P) w dT sT ty e g off k (c - off) sa m sc cur e (ys.take k) hu hsz hg hlen hsrc (by rw [hlen, hcs]; omega) (fun u hu => h1 u (List.mem_of_mem_take hu))
    rw [hdst]
    refine ⟨_, by rw [hrun, hlen]; rfl, ?_, ?_⟩
    · rw [hv]
      refine ⟨by rw [length_splice _ _ _ (by rw [hlen]; omega)]; omega, .inr ⟨g, c, _, rfl, hB, setRow_heap w g cur _ e _ hg, hnc, hcm, ?_, ?_⟩⟩
      · simp only [List.size_toArray, List.length_append, List.length_take, List.length_drop, Array.length_toList, hcs, s3]; omega
      · rw [← htake]
        have hcl : cur.toList.length = c := by rw [Array.length_toList]; omega
        rw [Nat.mul_one, splice_take _ _ _ _ (by rw [hlen]; omega) (by omega)]
        simp only [splice, hlen, List.append_assoc]
    · rw [hv]
      exact ⟨rfl, rfl, rfl, by simp [World.setRow], fun i _ hi => setRow_other w g i _ (fun e => hi (by simp [Value.ownBlock, e]))⟩

/-- copy(dv, sv): dv a part of an own row. The walk stops at it; lay this, and go on. -/
theorem run_copy {dT e B : TypeId} {v dv sv : Value} {n off k m : Nat} {xs ys : List Value} (sT ty : TypeId) (hu : P.underlying dT = some (.slice e)) (hsz : (P.info? e).map (·.size) = some 1)
    (hown : w.ownsRow B e 1 v n xs) (hcut : CutOf v off k dv) (hrd : Rd w 1 sv m ys) (h1 : ∀ u ∈ ys, u.oneCell' = true) {w0 : World} (hb : Below B w0 w) (hB : B ≤ w0.heap.size) :
    ∃ w', (Builtin.copy_ #[dT, sT] ty #[dv, sv]).run P w = .ok (.int .i64 (min m k : Nat)) w' ∧ w'.ownsRow B e 1 v n (splice xs off (ys.take k)) ∧ Below B w0 w' := by
  obtain ⟨w', hrun, h2, h3⟩ := run_copy_own (P := P) (sT := sT) (ty := ty) hu hsz hown hcut hrd h1
  exact ⟨w', hrun, h2, hb.grown h3 (Nat.le_trans hB hb.size) fun k hk => (hown.lt k hk).1⟩

/-- append(v, lit...), lit a literal of m elements that lies in a block. -/
theorem wpList_append (hgd : Region.wanted o (yielded ops a.tmps) = true) {s x : Operand} {t e B sz by_ : Nat} (ho : o.op = .call { callee := .builtin .append, args := #[s, x], argTypes := #[t, t] })
    {v lv z : Value} {n m : Nat} {xs ys : List Value} (hs : a.eval s = v) (hx : a.eval x = lv) (ht : P.underlying t = some (.slice e))
    (hi : (P.info? e).map (fun i => (i.zero, i.size, i.bytes)) = some (some z, sz, by_)) (hzs : z.cells.size = sz) (hsz : 0 < sz)
    (hown : w.ownsRow B e sz v n xs) (hrd : Rd w sz lv m ys) (h1 : ∀ u ∈ ys, u.oneCell' = true) (h63 : n + m ≤ 9223372036854775807) (hbytes : (n + m) * by_ ≤ 140737488355328)
    {w0 : World} (hb : Below B w0 w) (hB : B ≤ w0.heap.size)
    (h : ∀ v' w', w'.ownsRow B e sz v' (n + m) (xs ++ ys) → Below B w0 w' → w.grownBy w' v.ownBlock → wpList P ops Q rest (a.put o.dst v') w') : wpList P ops Q (o :: rest) a w := by
  obtain ⟨i, hi1, hi2, hi3, hi4⟩ := info3 hi
  obtain ⟨A, c, rfl, s1, s2, s3, s4, s5⟩ := hrd
  rcases A with _ | ad
  · have hc := s4 rfl
    have hm : m = 0 := by omega
    subst hc; subst hm
    have hy : ys = [] := List.eq_nil_of_length_eq_zero (by simpa using s3)
    subst hy
    have hrun := run_append_owned_none (P := P) w B t o.type e i sz ht hi1 v n xs hown
    refine wpList_builtin2 hgd ho hs hx (v := v) (w' := w) (fun cs => ?_) (h v w (by simpa using hown) hb (World.grownBy.refl w _))
    simp only [builtin, Sem.run_bind, hrun, Result.andThen_ok]; rfl
  · obtain ⟨b, q, sp⟩ := ad
    have hcell : ∀ j u, ys[j]? = some u → w.cell? ((⟨b, q, sp⟩ : Addr).add j) = some u := by
      intro j u hu
      have hm : 0 < m := by
        rcases Nat.eq_zero_or_pos m with h0 | h0
        · subst h0
          have : ys = [] := List.eq_nil_of_length_eq_zero (by simpa using s3)
          subst this; simp at hu
        · exact h0
      obtain ⟨p1, p2, p3⟩ := s5 hm _ rfl
      simp at p1; subst p1
      rw [show ((⟨b, q, none⟩ : Addr).add j) = ⟨b, q + j, none⟩ by unfold Addr.add; split <;> simp_all]
      exact p3 j u hu
    refine wpList_wanted hgd fun K hK => ?_
    refine wp_append_own _ s x t ho B e i z sz by_ ht hi1 hi2 hi3 hi4 hzs hsz v n xs hs hown ⟨b, q, sp⟩ m c ys hx s3 hcell h1 (by unfold maxLen; omega) hbytes (Nat.le_trans hB hb.size) fun v' w' g1 g2 g3 => hK _ _ ?_
    exact h v' w' g1 (hb.grown g2 (Nat.le_trans hB hb.size) fun k hk => (hown.lt k hk).1) g2

theorem lit_rdN {w : World} {cs : Array Value} {e : TypeId} {n : Nat} (h : cs.size = n) (hn : n ≤ 9223372036854775807) : Rd (w.alloc (.cells cs e)) 1 (.slice (some ⟨w.heap.size, 0, none⟩) n n) n cs.toList := by
  refine ⟨_, n, rfl, by omega, hn, by simpa using h, fun h => (by cases h), fun _ ad h => ?_⟩
  cases h
  refine ⟨rfl, by simp, fun j u hu => ?_⟩
  rw [show (0 + j) = j by omega, cell_of_row _ w.heap.size j cs e (0, 0) (heap_alloc_new w _)]
  simpa using hu
theorem alloc_sz (w : World) (o : Obj) : (w.alloc o).heap.size = w.heap.size + 1 := by simp
theorem alloc_heap (w : World) (o : Obj) : (w.alloc o).heap = w.heap.push o := rfl
/-- what is known of a block that is known whole, for the walk. -/
theorem blk_cell {w : World} {g : Nat} {cs : Array Value} {e : TypeId} (hg : w.heap[g]? = some (.cells cs e (0, 0))) (i : Nat) : w.cell? ⟨g, i, none⟩ = cs[i]? := cell_of_row w g i cs e (0, 0) hg
theorem blk_free {w : World} {g : Nat} {cs : Array Value} {e : TypeId} (hg : w.heap[g]? = some (.cells cs e (0, 0))) (i : Nat) : w.frozen? ⟨g, i, none⟩ = false := frozen_of_row w g i cs e hg
theorem blk_set {w : World} {g i : Nat} {cs : Array Value} {e : TypeId} (hg : w.heap[g]? = some (.cells cs e (0, 0))) (u : Value) : (w.setCell ⟨g, i, none⟩ u).heap[g]? = some (.cells (cs.setIfInBounds i u) e (0, 0)) := by
  simp [World.setCell, Array.getElem?_modify, hg]
theorem blk_far {w : World} {g : Nat} {p : Addr} {o : Obj} (hg : w.heap[g]? = some o) (hp : g ≠ p.block) (u : Value) : (w.setCell p u).heap[g]? = some o := (Below.heap_setCell w p u g hp).trans hg
theorem blk_new (w : World) (o : Obj) : (w.alloc o).heap[w.heap.size]? = some o := heap_alloc_new w o
theorem blk_old {w : World} {g : Nat} {o : Obj} (hg : w.heap[g]? = some o) (o' : Obj) : (w.alloc o').heap[g]? = some o := (Below.heap_alloc w o' g (Array.getElem?_eq_some_iff.1 hg).1).trans hg
theorem blk_below {w w' : World} {g : Nat} {o : Obj} (hg : w.heap[g]? = some o) (hb : Below w.heap.size w w') : w'.heap[g]? = some o := (hb.block g (Array.getElem?_eq_some_iff.1 hg).1).trans hg
/-- block g is just the cells cs. -/
def Bx (w : World) (g : Nat) (t : TypeId) (cs : Array Value) : Prop := w.heap[g]? = some (.cells cs t (0, 0))
theorem Bx.cell {w : World} {g : Nat} {t : TypeId} {cs : Array Value} (h : Bx w g t cs) (i : Nat) : w.cell? ⟨g, i, none⟩ = cs[i]? := blk_cell h i
theorem Bx.free {w : World} {g : Nat} {t : TypeId} {cs : Array Value} (h : Bx w g t cs) (i : Nat) : w.frozen? ⟨g, i, none⟩ = false := blk_free h i
theorem Bx.lt {w : World} {g : Nat} {t : TypeId} {cs : Array Value} (h : Bx w g t cs) : g < w.heap.size := (Array.getElem?_eq_some_iff.1 h).1
theorem Bx.below {w w' : World} {g : Nat} {t : TypeId} {cs : Array Value} (h : Bx w g t cs) (hb : Below w.heap.size w w') : Bx w' g t cs := blk_below h hb
theorem Bx.alloc {w : World} {g : Nat} {t : TypeId} {cs : Array Value} (h : Bx w g t cs) (o : Obj) : Bx (w.alloc o) g t cs := blk_old h o
theorem Bx.drewN {w : World} {g : Nat} {t : TypeId} {cs : Array Value} (h : Bx w g t cs) (n : Nat) : Bx (w.drewN n) g t cs := h
theorem Bx.set {w : World} {g i : Nat} {t : TypeId} {cs : Array Value} (h : Bx w g t cs) (u : Value) : Bx (w.setCell ⟨g, i, none⟩ u) g t (cs.setIfInBounds i u) := blk_set h u
theorem Bx.far {w : World} {g : Nat} {t : TypeId} {cs : Array Value} (h : Bx w g t cs) {p : Addr} (hp : g ≠ p.block) (u : Value) : Bx (w.setCell p u) g t cs := blk_far h hp u
theorem Bx.new (w : World) (t : TypeId) (cs : Array Value) : Bx (w.alloc (.cells cs t)) w.heap.size t cs := blk_new w _

/-- a part of a block from its head on. -/
theorem lit_part {w : World} {g n c : Nat} {cs : Array Value} {e : TypeId} {fr : Nat × Nat} (hg : w.heap[g]? = some (.cells cs e fr)) (hc : c = cs.size) (hn : n ≤ cs.size) (hm : cs.size ≤ 1048576) : Rd w 1 (.slice (some ⟨g, 0, none⟩) n c) n (cs.toList.take n) := by
  subst hc
  refine ⟨_, _, rfl, hn, by omega, by simp; omega, fun h => (by cases h), fun _ ad h => ?_⟩
  cases h
  refine ⟨rfl, (Array.getElem?_eq_some_iff.1 hg).1, fun j u hu => ?_⟩
  rw [show (0 + j) = j by omega, cell_of_row _ g j cs e fr hg]
  rw [List.getElem?_take] at hu
  split at hu
  · simpa using hu
  · cases hu
theorem part_words {w : World} {g n c : Nat} {cs : Array Value} {e : TypeId} {fr : Nat × Nat} (l : List UInt64) (hg : w.heap[g]? = some (.cells cs e fr)) (hc : c = cs.size) (hn : n = l.length) (hl : cs.toList.take n = l.map u64) (hm : cs.size ≤ 1048576) : Words w (.slice (some ⟨g, 0, none⟩) n c) l := by
  have h2 : n ≤ cs.size := by
    have := congrArg List.length hl
    rw [List.length_take, List.length_map, Array.length_toList] at this
    omega
  have := lit_part hg hc h2 hm
  rw [hl, hn] at this
  rw [hn]; exact this
theorem lit_words {w : World} {cs : Array Value} {e : TypeId} {n : Nat} (l : List UInt64) (h : cs.toList = l.map u64) (hn : n = l.length) (hl : l.length ≤ 1048576) : Words (w.alloc (.cells cs e)) (.slice (some ⟨w.heap.size, 0, none⟩) n n) l := by
  have hs : cs.size = n := by rw [← Array.length_toList, h]; simp [hn]
  have := lit_rdN (w := w) (e := e) hs (by omega)
  rw [h] at this
  subst hn; exact this
theorem lit_ints {w : World} {cs : Array Value} {e : TypeId} {n : Nat} (l : List Int) (h : cs.toList = l.map i64) (hn : n = l.length) (hl : l.length ≤ 1048576) : Ints (w.alloc (.cells cs e)) (.slice (some ⟨w.heap.size, 0, none⟩) n n) l := by
  have hs : cs.size = n := by rw [← Array.length_toList, h]; simp [hn]
  have := lit_rdN (w := w) (e := e) hs (by omega)
  rw [h] at this
  subst hn; exact this
theorem lit_rd {w : World} {u : Value} {e : TypeId} : Rd (w.alloc (.cells #[u] e)) 1 (.slice (some ⟨w.heap.size, 0, none⟩) 1 1) 1 [u] := by
  refine ⟨_, 1, rfl, by omega, by omega, rfl, fun h => (by cases h), fun _ ad h => ?_⟩
  cases h
  refine ⟨rfl, by simp, fun j u' hu => ?_⟩
  rcases j with _ | j
  · simp at hu; subst hu; simp [go_sem]
  · simp at hu

/-- make([]T, n), whole; one cell a T. -/
theorem wpList_make (hgd : Region.wanted o (yielded ops a.tmps) = true) {l c : Operand} {t e B by_ : Nat} (ho : o.op = .makeSlice t l c)
    {z : Value} {n : Nat} (hl : a.eval l = .int .i64 (n : Int)) (hc : a.eval c = .int .i64 (n : Int)) (ht : P.underlying t = some (.slice e))
    (hi : (P.info? e).map (fun i => (i.zero, i.size, i.bytes)) = some (some z, 1, by_)) (hzs : z.cells = #[z]) (hbytes : by_ * n ≤ 281474976710656) (h63 : n ≤ 9223372036854775807)
    {w0 : World} (hb : Below B w0 w) (hB : B ≤ w0.heap.size)
    (h : ∀ v' w', w'.ownsRow B e 1 v' n (List.replicate n z) → Below B w0 w' → wpList P ops Q rest (a.put o.dst v') w') : wpList P ops Q (o :: rest) a w := by
  obtain ⟨i, hi1, hi2, hi3, hi4⟩ := info3 hi
  obtain ⟨w', hrun, g1, g2⟩ := run_make_full (P := P) w B t e i z 1 ht hi1 hi2 hi3 .i64 .i64 n (by rw [hi4]; exact hbytes) (by unfold maxLen; omega) (Nat.le_trans hB hb.size)
  refine wpList_wanted hgd fun K hK => ?_
  unfold Oper.wp
  simp [execOp, ho, hl, hc, hrun]
  refine hK _ _ (h _ w' ?_ (hb.grown g2 (Nat.le_trans hB hb.size) (fun _ hk => by cases hk)))
  rw [hzs, Nat.mul_one, toList_madeCells_one] at g1
  exact g1

theorem lit0_own {w : World} {e B sz : Nat} (hB : B ≤ w.heap.size) : (w.alloc (.cells #[] e)).ownsRow B e sz (.slice (some ⟨w.heap.size, 0, none⟩) 0 0) 0 [] :=
  World.ownsRow_made w #[] 0 hB (by simp [maxLen]) (by simp)
theorem one_u64s (l : List UInt64) : ∀ u ∈ l.map u64, u.oneCell' = true := by
  intro u hu; obtain ⟨x, _, rfl⟩ := List.mem_map.1 hu; rfl
theorem one_i64s (l : List Int) : ∀ u ∈ l.map i64, u.oneCell' = true := by
  intro u hu; obtain ⟨x, _, rfl⟩ := List.mem_map.1 hu; rfl
theorem OwnW.of {w : World} {B E n : Nat} {v : Value} {xs : List Value} {l : List UInt64} (h : w.ownsRow B E 1 v n xs) (hx : xs = l.map u64) : OwnW w B E v l := by
  subst hx
  have hn : n = l.length := by have := h.1; simp at this; omega
  subst hn; exact h
theorem OwnI.of {w : World} {B E n : Nat} {v : Value} {xs : List Value} {l : List Int} (h : w.ownsRow B E 1 v n xs) (hx : xs = l.map i64) : OwnI w B E v l := by
  subst hx
  have hn : n = l.length := by have := h.1; simp at this; omega
  subst hn; exact h
theorem OwnW.nil (w : World) (B E : Nat) : OwnW w B E (.slice none 0 0) [] := World.ownsRow_nil w B E 1
theorem OwnI.nil (w : World) (B E : Nat) : OwnI w B E (.slice none 0 0) [] := World.ownsRow_nil w B E 1

theorem own_cutFrom {v : Value} {n B e t : Nat} {xs : List Value} (h : w.ownsRow B e 1 v n xs) (ht : P.underlying t = some (.slice e)) (hs : (P.info? e).map (·.size) = some 1) {lo : Int} (h0 : 0 ≤ lo) (h1 : lo ≤ n) :
    ∃ dv, (∀ W, (Instr.sliceAt t v (some (.int .i64 lo)) none none).run P W = .ok dv W) ∧ CutOf v lo.toNat (n - lo.toNat) dv := by
  obtain ⟨k, rfl⟩ := Int.eq_ofNat_of_zero_le h0
  obtain ⟨dv, _, r1, _, _, A, c, r3, r4⟩ := Rd.cutN (Rd.of_own h) ht hs (lo := k) (hi := n) (by omega) (Nat.le_refl _)
  refine ⟨dv, r1 rfl, A, n, c, r3, by simp; omega, ?_, by simpa using r4⟩
  rcases h.2 with ⟨h, h'⟩ | ⟨g, cap, cur, h, _, _, hc, _⟩
  · omega
  · rw [r3] at h; simp at h; omega

theorem own_below {w w' : World} {B e sz n : Nat} {v : Value} {xs : List Value} (h : w.ownsRow B e sz v n xs) (hb : Below w.heap.size w w') : w'.ownsRow B e sz v n xs := by
  refine ⟨h.1, h.2.imp id ?_⟩
  rintro ⟨g, cap, cur, h1, h2, h3, h4⟩
  exact ⟨g, cap, cur, h1, h2, (hb.block g (Array.getElem?_eq_some_iff.1 h3).1).trans h3, h4⟩
theorem own_mono {w : World} {B B' e sz n : Nat} {v : Value} {xs : List Value} (h : w.ownsRow B e sz v n xs) (hB : B' ≤ B) : w.ownsRow B' e sz v n xs := by
  refine ⟨h.1, h.2.imp id ?_⟩
  rintro ⟨g, cap, cur, h1, h2, h4⟩
  exact ⟨g, cap, cur, h1, by omega, h4⟩
theorem own_ne {w1 w2 : World} {B1 B2 e1 e2 s1 s2 n1 n2 : Nat} {a x : Value} {xs1 xs2 : List Value} (ha : w1.ownsRow B1 e1 s1 a n1 xs1) (hx : w2.ownsRow B2 e2 s2 x n2 xs2) (h : w1.heap.size ≤ B2) :
    (x.ownBlock = none ∨ x.ownBlock ≠ a.ownBlock) ∧ (a.ownBlock = none ∨ a.ownBlock ≠ x.ownBlock) := by
  cases hb : x.ownBlock with
  | none => cases a.ownBlock <;> simp
  | some g =>
    have h1 := (hx.lt g hb).1
    cases ha' : a.ownBlock with
    | none => simp
    | some g' =>
      have h2 := (ha.lt g' ha').2
      simp; omega
theorem OwnW.below {w w' : World} {B E : Nat} {v : Value} {l : List UInt64} (h : OwnW w B E v l) (hb : Below w.heap.size w w') : OwnW w' B E v l := own_below h hb
theorem OwnI.below {w w' : World} {B E : Nat} {v : Value} {l : List Int} (h : OwnI w B E v l) (hb : Below w.heap.size w w') : OwnI w' B E v l := own_below h hb
theorem OwnW.kept {w w' : World} {B E : Nat} {v : Value} {l : List UInt64} {row : Option Nat} (h : OwnW w B E v l) (hg : w.grownBy w' row) (hne : v.ownBlock = none ∨ v.ownBlock ≠ row) : OwnW w' B E v l := World.ownsRow.kept h hg hne

/-- make([]T, n), n an int that is not below 0. -/
theorem wpList_makeI (hgd : Region.wanted o (yielded ops a.tmps) = true) {l c : Operand} {t e B by_ : Nat} (ho : o.op = .makeSlice t l c)
    {z : Value} {n : Int} (hl : a.eval l = .int .i64 n) (hc : a.eval c = .int .i64 n) (ht : P.underlying t = some (.slice e))
    (hi : (P.info? e).map (fun i => (i.zero, i.size, i.bytes)) = some (some z, 1, by_)) (hzs : z.cells = #[z]) (h0 : 0 ≤ n) (hby : by_ ≤ 64) (hn : n ≤ 1048576)
    {w0 : World} (hb : Below B w0 w) (hB : B ≤ w0.heap.size)
    (h : ∀ v' w', w'.ownsRow B e 1 v' n.toNat (List.replicate n.toNat z) → Below B w0 w' → Below w.heap.size w w' → wpList P ops Q rest (a.put o.dst v') w') : wpList P ops Q (o :: rest) a w := by
  obtain ⟨m, rfl⟩ := Int.eq_ofNat_of_zero_le h0
  obtain ⟨i, hi1, hi2, hi3, hi4⟩ := info3 hi
  have hbb : by_ * m ≤ 64 * 1048576 := Nat.mul_le_mul hby (by omega)
  obtain ⟨w', hrun, g1, g2⟩ := run_make_full (P := P) w B t e i z 1 ht hi1 hi2 hi3 .i64 .i64 m (by rw [hi4]; omega) (by unfold maxLen; omega) (Nat.le_trans hB hb.size)
  refine wpList_wanted hgd fun K hK => ?_
  unfold Oper.wp
  simp [execOp, ho, hl, hc, hrun]
  refine hK _ _ (h _ w' ?_ (hb.grown g2 (Nat.le_trans hB hb.size) (fun _ hk => by cases hk)) ((Below.refl _ _).grown g2 (Nat.le_refl _) (fun _ hk => by cases hk)))
  rw [hzs, Nat.mul_one, toList_madeCells_one] at g1
  simpa using g1

/-- a slice with elements, written out. -/
theorem Rd.form {w : World} {sz n : Nat} {v : Value} {xs : List Value} (h : Rd w sz v n xs) (hn : 0 < n) : ∃ b o c, v = .slice (some ⟨b, o, none⟩) n c ∧ b < w.heap.size ∧ n ≤ c ∧ ∀ j u, xs[j]? = some u → w.cell? ⟨b, o + j, none⟩ = some u := by
  obtain ⟨A, c, rfl, h1, h2, h3, h4, h5⟩ := h
  cases A with
  | none => have := h4 rfl; omega
  | some ad =>
    obtain ⟨p1, p2, p3⟩ := h5 hn ad rfl
    obtain ⟨b, o, s⟩ := ad
    simp at p1; subst p1
    exact ⟨b, o, c, rfl, p2, h1, p3⟩

/-- forget how the world came about. -/
theorem wp_gen {c : Code} {w : World} (Φ : World → Prop) (h0 : Φ w) (h : ∀ w1, Φ w1 → c.wp P Q a w1) : c.wp P Q a w := h w h0
theorem calls_gen {f : FuncId} {args : Array Value} {R : Ending → World → Prop} {w : World} (Φ : World → Prop) (h0 : Φ w) (h : ∀ w1, Φ w1 → Calls P f args w1 R) : Calls P f args w R := h w h0

/-- v[k] = u on a row of the call's own. -/
theorem own_at {v : Value} {n B e t : Nat} {xs : List Value} (h : w.ownsRow B e 1 v n xs) {e' : Nat} (ht : P.underlying t = some (.slice e')) (hi : (P.info? e').map (·.size) = some 1) {k : Int} (h0 : 0 ≤ k) (hk : k < n) :
    ∃ ad u0, (∀ W, (Instr.indexAt t v (.int .i64 k)).run P W = .ok (.pointer (some ad)) W) ∧ w.cell? ad = some u0 ∧ w.frozen? ad = false ∧ B ≤ ad.block ∧ Hid (xs[k.toNat]? = some u0) ∧ ∀ u, (w.setCell ad u).ownsRow B e 1 v n (xs.set k.toNat u) := by
  obtain ⟨j, rfl⟩ := Int.eq_ofNat_of_zero_le h0
  have hj : j < n := by omega
  obtain ⟨g, cap, cur, rfl, hB, hg, hnc, hcm, hcs, htake⟩ := own_form h (by omega)
  have hxl : j < xs.length := by have := h.1; omega
  have hrd := Rd.of_own h
  have hix := fun W => Rd.ixN hrd ht hi hj W
  have hcell := Rd.cell hrd (j := j) (u := xs[j]) (List.getElem?_eq_getElem hxl)
  have e1 : cellAt (.slice (some ⟨g, 0, none⟩) n cap) (j * 1) = ⟨g, j, none⟩ := by simp [cellAt]
  have e2 : cellAt (.slice (some ⟨g, 0, none⟩) n cap) j = ⟨g, j, none⟩ := by simp [cellAt]
  rw [e2] at hcell
  refine ⟨⟨g, j, none⟩, xs[j], fun W => by rw [← e1]; exact hix W, hcell, h.frozenAt j, hB, ?_, fun u => (h.stored j u).1⟩
  show xs[j]? = _
  exact List.getElem?_eq_getElem hxl
theorem OwnW.set {B E k : Nat} {v : Value} {l : List UInt64} {x : UInt64} (h : w.ownsRow B E 1 v l.length ((l.map u64).set k (.int .u64 x.toNat))) : OwnW w B E v (l.set k x) :=
  OwnW.of (n := l.length) h (by rw [List.map_set]; rfl)
end
end Go.Proofs.Ytgjpohhafmkhcaa
