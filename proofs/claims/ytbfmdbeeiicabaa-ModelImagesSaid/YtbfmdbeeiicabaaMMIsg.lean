/- Contracts of the functions that the law 'ModelImages' reaches, part 7. No condition. -/
import Derived.Test.YtbfmdbeeiicabaaMMIsf
set_option linter.unusedVariables false
set_option linter.unusedSimpArgs false
namespace Go.Proofs.Ytbfmdbeeiicabaa
open Go.RowKit L02 L13 L18 L20
theorem obC_erase : ∀ {L : List Ob} {vs : List Value} {i : Nat}, vs.length = L.length → obC (L.eraseIdx i) (vs.eraseIdx i) = (obC L vs).take (i * 2) ++ (obC L vs).drop ((i + 1) * 2)
  | [], [], i, _ => by simp [obC]
  | [], _ :: _, _, h => by simp at h
  | _ :: _, [], _, h => by simp at h
  | o :: L, x :: vs, 0, h => by simp [obC]
  | o :: L, x :: vs, i + 1, h => by
    rw [List.eraseIdx_cons_succ, List.eraseIdx_cons_succ, obC, obC_erase (by simpa using h), obC]
    rw [show (i + 1) * 2 = i * 2 + 1 + 1 by omega, show (i + 1 + 1) * 2 = (i * 2 + 1 + 1) + 1 + 1 by omega]
    simp
theorem run_clear_obj (w : World) (ty : TypeId) (b o c : Nat) (hc : ∀ j, j < 2 → (w.cell? ⟨b, o + j, none⟩).isSome = true) (hf : ∀ j, j < 2 → w.frozen? ⟨b, o + j, none⟩ = false) :
    (Builtin.clear_ #[77] ty #[.slice (some ⟨b, o, none⟩) 1 c]).run Try.prog w = .ok (.tuple #[]) (w.setCells b o [.int .i64 0, .slice none 0 0]) := by
  have hst := run_storeCells_cells (P := Try.prog) b o [.int .i64 0, .slice none 0 0] 0 w (by simpa using hc) (by simpa using hf) (by simp [Value.oneCell'])
  simp only [Nat.add_zero] at hst
  obtain ⟨i, hi1, hi2, hi3, hi4⟩ := info3 info_obj
  have hz : (zeroValue 136).run Try.prog w = .ok (.agg #[.int .i64 0, .slice none 0 0]) w := by
    simp [zeroValue, typeInfo, hi1, hi2, go_sem]
  have hzc : (Builtin.zeroCells (Value.agg #[.int .i64 0, .slice none 0 0]).cells 1).toList = [.int .i64 0, .slice none 0 0] := by kernel_rfl
  simp [Builtin.clear_, run_underlying Try.underlying77, hz, hzc, hst]
section
variable {P : Program} {ops : Array Oper} {rest : List Oper} {o : Oper} {a : Act} {Q : Exit → Act → World → Prop} {w : World}
/-- append where there is room -/
theorem wpList_appendRoom (hgd : Region.wanted o (yielded ops a.tmps) = true) {s x : Operand} {t e : TypeId} (ho : o.op = .call { callee := .builtin .append, args := #[s, x], argTypes := #[t, t] }) (ht : P.underlying t = some (.slice e)) {size : Nat} (hi : (P.info? e).map (·.size) = some size)
    {b off n cap : Nat} (hs : a.eval s = .slice (some ⟨b, off, none⟩) n cap) {ad : Addr} {m c : Nat} (news : List Value) (hx : a.eval x = .slice (some ad) m c) (hn : news.length = m * size) (hc : ∀ j u, news[j]? = some u → w.cell? (ad.add j) = some u) (h1 : ∀ u ∈ news, u.oneCell' = true)
    (hroom : n + m ≤ cap) (hspare : ∀ j, j < news.length → (w.cell? ⟨b, off + n * size + j, none⟩).isSome = true ∧ w.frozen? ⟨b, off + n * size + j, none⟩ = false)
    (h : wpList P ops Q rest (a.put o.dst (.slice (some ⟨b, off, none⟩) (n + m) cap)) (w.setCells b (off + n * size) news)) : wpList P ops Q (o :: rest) a w := by
  obtain ⟨i, hi', rfl⟩ := Option.map_eq_some_iff.1 hi
  have hrun := run_append_room_cells (P := P) w t o.type e i ht hi' b off n cap ad m c news hn hc h1 hroom (fun j hj => (hspare j hj).1) (fun j hj => (hspare j hj).2)
  refine wpList_wanted hgd fun K hK => ?_
  unfold Oper.wp
  simp [execOp, ho, resolve, invoke, builtin, hs, hx, hrun, Result.andThen]
  exact hK _ _ h
end
theorem setCells_size (g : Nat) : ∀ (l : List Value) (o : Nat) (w : World), (w.setCells g o l).heap.size = w.heap.size
  | [], _, _ => rfl
  | v :: r, o, w => by rw [World.setCells, setCells_size g r]; simp [World.setCell]
theorem setCells_os (g : Nat) : ∀ (l : List Value) (o : Nat) (w : World), (w.setCells g o l).os = w.os ∧ (w.setCells g o l).tape = w.tape ∧ (w.setCells g o l).output = w.output
  | [], _, _ => ⟨rfl, rfl, rfl⟩
  | v :: r, o, w => by rw [World.setCells]; exact setCells_os g r (o + 1) _
theorem setCells_block (g : Nat) {k : Nat} (hk : k ≠ g) : ∀ (l : List Value) (o : Nat) (w : World), (w.setCells g o l).heap[k]? = w.heap[k]?
  | [], _, _ => rfl
  | v :: r, o, w => by rw [World.setCells, setCells_block g hk r]; exact Below.heap_setCell w ⟨g, o, none⟩ v k hk
theorem setCells_grown (g o : Nat) (l : List Value) (w : World) : w.grownBy (w.setCells g o l) (some g) :=
  ⟨(setCells_os g l o w).1, (setCells_os g l o w).2.1, (setCells_os g l o w).2.2, by rw [setCells_size]; exact Nat.le_refl _, fun k hk hne => setCells_block g (by intro e; exact hne (by rw [e])) l o w⟩
set_option maxRecDepth 100000 in
set_option maxHeartbeats 4000000 in
theorem Delete_any (g n cap i j B : Nat) (xs : List Value) (hj : j = i + 1) (hi : i < n) (hn : n ≤ 1000) (w : World) (h : w.ownsRow B 136 2 (.slice (some ⟨g, 0, none⟩) n cap) n xs) (h1 : ∀ u ∈ xs, u.oneCell' = true) :
    Calls Try.prog 120 #[.slice (some ⟨g, 0, none⟩) n cap, .int .i64 i, .int .i64 j] w fun e w' => e = .returned (.slice (some ⟨g, 0, none⟩) (n - 1 : Nat) cap) ∧
      w'.ownsRow B 136 2 (.slice (some ⟨g, 0, none⟩) (n - 1) cap) (n - 1) (xs.take (i * 2) ++ xs.drop ((i + 1) * 2)) ∧ w.grownBy w' (some g) := by
  obtain ⟨g', cap', cur, hv, hB, hg, hnc, hcm, hcs, htk⟩ := own_form h (by omega)
  injection hv with e1 e2 e3; injection e1 with e1; injection e1 with e1; subst e1; subst e3
  have hxl := h.1
  obtain ⟨news, hnews⟩ : ∃ l, l = xs.drop ((i + 1) * 2) := ⟨_, rfl⟩
  have hnl : news.length = (n - j) * 2 := by rw [hnews, List.length_drop, hxl]; omega
  have hcell : ∀ (k : Nat) u, xs[k]? = some u → w.cell? ⟨g, k, none⟩ = some u := fun k u hu => by
    rw [blk_cell hg]
    rw [← htk, List.getElem?_take] at hu
    split at hu
    · simpa using hu
    · cases hu
  obtain ⟨A, hA, hsrc⟩ : ∃ A : Addr, (if cap = j then some (⟨g, 0, none⟩ : Addr) else some ⟨g, j * 2, none⟩) = some A ∧ ∀ t u, news[t]? = some u → w.drew.cell? (A.add t) = some u := by
    by_cases hc : cap = j
    · refine ⟨⟨g, 0, none⟩, by simp [hc], fun t u hu => ?_⟩
      have h0 : news.length = 0 := by rw [hnl]; omega
      rw [List.length_eq_zero_iff.1 h0] at hu
      simp at hu
    · refine ⟨⟨g, j * 2, none⟩, by simp [hc], fun t u hu => ?_⟩
      rw [hnews, List.getElem?_drop] at hu
      rw [Addr.add_lit]
      have := hcell _ u hu
      rw [hj]; exact this
  have hone : ∀ u ∈ news, u.oneCell' = true := fun u hu => h1 u (by rw [hnews] at hu; exact List.mem_of_mem_drop hu)
  have hspare : ∀ t, t < news.length → (w.drew.cell? ⟨g, 0 + i * 2 + t, none⟩).isSome = true ∧ w.drew.frozen? ⟨g, 0 + i * 2 + t, none⟩ = false := fun t ht => by
    refine ⟨?_, blk_free (w := w.drew) hg _⟩
    have := blk_cell (w := w.drew) hg (0 + i * 2 + t)
    rw [this, Array.getElem?_eq_getElem (by rw [hcs, hnl] at *; omega)]; rfl
  obtain ⟨W1, hW1⟩ : ∃ W, W = w.drew.setCells g (0 + i * 2) news := ⟨_, rfl⟩
  have hg1 : Bx W1 g 136 (putL cur (0 + i * 2) news) := by rw [hW1]; exact Bx.setCells news (0 + i * 2) (show Bx w.drew g _ cur from hg)
  have hsz1 : (putL cur (0 + i * 2) news).size = cap * 2 := by rw [putL_size]; exact hcs
  have hcl := run_clear_obj W1 0 g ((n - 1) * 2) (cap - (n - 1)) (fun k hk => by rw [hg1.cell, Array.getElem?_eq_getElem (by rw [hsz1]; omega)]; rfl) (fun k hk => hg1.free _)
  obtain ⟨W2, hW2⟩ : ∃ W, W = W1.setCells g ((n - 1) * 2) [.int .i64 0, .slice none 0 0] := ⟨_, rfl⟩
  rw [← hW2] at hcl
  have hg2 : Bx W2 g 136 (putL (putL cur (0 + i * 2) news) ((n - 1) * 2) [.int .i64 0, .slice none 0 0]) := by rw [hW2]; exact hg1.setCells _ _
  have HFIN := Lib.hid (show W2.ownsRow B 136 2 (.slice (some ⟨g, 0, none⟩) (n - 1) cap) (n - 1) (xs.take (i * 2) ++ xs.drop ((i + 1) * 2)) ∧ w.grownBy W2 (some g) from by
    refine ⟨⟨by rw [List.length_append, List.length_take, List.length_drop, hxl]; omega, .inr ⟨g, cap, _, rfl, hB, hg2, by omega, hcm, by rw [putL_size]; exact hsz1, ?_⟩⟩, ?_⟩
    · apply List.ext_getElem?
      intro k
      rw [List.getElem?_take]
      split
      · rename_i hk
        rw [Array.getElem?_toList, putL_get _ _ _ _ (by rw [hsz1]; simp; omega), if_neg (by omega), putL_get _ _ _ _ (by rw [hnl, hcs]; omega)]
        by_cases hki : k < i * 2
        · rw [if_neg (by omega), List.getElem?_append_left (by rw [List.length_take, hxl]; omega), List.getElem?_take, if_pos hki, ← htk, List.getElem?_take, if_pos (by omega), Array.getElem?_toList]
        · rw [if_pos (by rw [hnl]; omega), List.getElem?_append_right (by rw [List.length_take, hxl]; omega), hnews, List.length_take, hxl]
          congr 1; omega
      · rename_i hk
        rw [List.getElem?_eq_none (by rw [List.length_append, List.length_take, List.length_drop, hxl]; omega)]
    · have k1 := setCells_grown g (0 + i * 2) news w.drew
      have k2 := setCells_grown g ((n - 1) * 2) [.int .i64 0, .slice none 0 0] W1
      rw [← hW1] at k1; rw [← hW2] at k2
      exact ⟨k2.os.trans k1.os, k2.tape.trans k1.tape, k2.output.trans k1.output, Nat.le_trans k1.size k2.size, fun k hk hne => (k2.block k (Nat.lt_of_lt_of_le hk k1.size) hne).trans (k1.block k hk hne)⟩)
  have HA := Lib.hid (And.intro hA (And.intro hsrc (And.intro hone (And.intro hspare (And.intro hnl (And.intro hW1 hj))))))
  have hb1 : i ≤ cap := by omega
  have hb2 : j ≤ cap := by omega
  have hb3 : i ≤ j := by omega
  have hb4 : j ≤ n := by omega
  have hne : ((i : Int) == (j : Int)) = false := by rw [beq_eq_false_iff_ne]; omega
  clear hW2 hg2 hW1 hg1 hsz1 hspare hone hsrc hcell hnl hnews htk hcs hcm hg hB h hxl h1 hj
  go_enter Try.func120, Try.ntmps120
  go_upto_region 5 with (fail)
  refine wp_region_qtail 6 (by kernel_rfl) (by kernel_rfl) ?_
  simp only [List.take_succ_cons, List.take_zero, List.drop_succ_cons, List.drop_zero]
  iterate 6 (go_big_quiet_step (fail))
  refine wpQuiet_nil ?_
  refine wpList_appendRoom (by rfl) (s := .tmp 22) (x := .tmp 25) rfl Try.underlying77 size_obj (b := g) (off := 0) (n := i) (cap := cap) (by rfl) (ad := A) (m := n - j) (c := cap - j) news (by rw [← HA.out.1]; rfl) HA.out.2.2.2.2.1 HA.out.2.1 HA.out.2.2.1 (by omega) HA.out.2.2.2.1 ?_
  rw [← HA.out.2.2.2.2.2.1]
  have hij : i + (n - j) = n - 1 := by have := HA.out.2.2.2.2.2.2; omega
  rw [hij]
  simp only [Act.put, List.setIfInBounds_toArray, List.set_cons_zero, List.set_cons_succ]
  obtain ⟨n1, hn1⟩ : ∃ n1, n1 = n - 1 := ⟨_, rfl⟩
  rw [← hn1] at hcl ⊢
  have hc1 : ¬ cap = n1 := by omega
  have hc2 : n - n1 = 1 := by omega
  have hc3 : n1 ≤ n := by omega
  have hc4 : n ≤ cap := hnc
  have HN := Lib.hid hn1
  clear hij hn1 hne hb1 hb2 hb3 hb4 hi
  go_wp2
  go_ret
  rw [← HN.out] at HFIN ⊢
  exact ⟨rfl, HFIN.out⟩
/-- an object is taken away -/
theorem OwnO.erase {w : World} {B g n cap : Nat} {L : List Ob} (h : OwnO w B (.slice (some ⟨g, 0, none⟩) n cap) L) {i : Nat} (hi : i < L.length) (hn : L.length ≤ 1000) :
    n = L.length ∧ ∃ xs, w.ownsRow B 136 2 (.slice (some ⟨g, 0, none⟩) n cap) n xs ∧ (∀ u ∈ xs, u.oneCell' = true) ∧ ∀ W, w.grownBy W (some g) → W.ownsRow B 136 2 (.slice (some ⟨g, 0, none⟩) (n - 1) cap) (n - 1) (xs.take (i * 2) ++ xs.drop ((i + 1) * 2)) → OwnO W B (.slice (some ⟨g, 0, none⟩) (n - 1) cap) (L.eraseIdx i) := by
  obtain ⟨vs, h1, h2, h4, h5⟩ := h
  obtain ⟨g', cap', cur, hv, _⟩ := own_form h2 (by omega)
  injection hv with e1 e2 e3
  subst e2
  refine ⟨rfl, _, h2, ?_, fun W hg ho => ⟨vs.eraseIdx i, ?_, ?_, ?_, ?_⟩⟩
  · intro u hu
    have : ∀ (L : List Ob) (vs : List Value), (∀ x ∈ vs, x.oneCell' = true) → ∀ u ∈ obC L vs, u.oneCell' = true := by
      intro L
      induction L with
      | nil => intro vs _ u hu; simp [obC] at hu
      | cons o L ih =>
        intro vs hvs u hu
        cases vs with
        | nil => simp [obC] at hu
        | cons x vs =>
          rw [obC] at hu
          rcases List.mem_cons.1 hu with h | h
          · rw [h]; rfl
          · rcases List.mem_cons.1 h with h | h
            · rw [h]; exact hvs x List.mem_cons_self
            · exact ih vs (fun y hy => hvs y (List.mem_cons_of_mem _ hy)) u h
    refine this L vs (fun x hx => ?_) u hu
    obtain ⟨k, hk⟩ := List.mem_iff_getElem?.1 hx
    have hkl : k < L.length := by rw [← h1]; exact (List.getElem?_eq_some_iff.1 hk).1
    exact (h4 k x _ hk (List.getElem?_eq_getElem hkl)).rd.oneCell
  · rw [List.length_eraseIdx_of_lt (by omega), List.length_eraseIdx_of_lt hi, h1]
  · rw [List.length_eraseIdx_of_lt hi, obC_erase h1]; exact ho
  · intro k x o hx ho2
    rw [List.getElem?_eraseIdx] at hx ho2
    split at hx
    · rename_i hk
      rw [if_pos hk] at ho2
      have := h4 k x o hx ho2
      exact World.ownsRow.kept this hg (own_unlike this h2 (by decide))
    · rename_i hk
      rw [if_neg hk] at ho2
      have := h4 _ x o hx ho2
      exact World.ownsRow.kept this hg (own_unlike this h2 (by decide))
  · intro a b x y hab hx hy
    rw [List.getElem?_eraseIdx] at hx hy
    split at hx <;> split at hy <;> exact h5 _ _ x y (by omega) hx hy
end Go.Proofs.Ytbfmdbeeiicabaa
namespace Go.Proofs.Ytbfmdbeeiicabaa
open Go.RowKit L02 L13 L18 L20
theorem OwnF.ne_bx {w : World} {base n gf p : Nat} {v : Value} {L : List Ob} {t : TypeId} {cs : Array Value} (h : OwnF w base v L n gf) (ho : n < L.length) (hg : Bx w p t cs) (hne : 34 ≠ t) : gf ≠ p := by
  obtain ⟨vs, nf, cf, h1, h2, h4, h5, h6⟩ := h
  exact own_ne_bx (h4 n _ _ h6 (List.getElem?_eq_getElem ho)) hg hne
theorem rough_chk {m : Mo} (h : chk m = 0) (S : List Sl) : Rough ⟨m.types, m.objs, S⟩ := by
  obtain ⟨h1, h2, h3⟩ := chk_ok h
  refine ⟨by show m.objs.length ≤ 1000; omega, fun o ho => ⟨(h3.2.2.1 o ho).1, (h3.2.2.1 o ho).2.1, ?_⟩⟩
  exact (small_chk h).2.2.2.2 o ho
theorem low_cases (n : Nat) (s : Sl) : (s.used = false ∨ (s.used = true ∧ (s.at_ == (n : Int)) = true ∧ decide ((n : Int) < s.at_) = false) ∨ (s.used = true ∧ (s.at_ == (n : Int)) = false ∧ decide ((n : Int) < s.at_) = false)) ∨ (s.used = true ∧ (s.at_ == (n : Int)) = false ∧ decide ((n : Int) < s.at_) = true) := by
  cases hu : s.used
  · exact .inl (.inl rfl)
  · by_cases h1 : s.at_ = n
    · exact .inl (.inr (.inl ⟨rfl, by rw [beq_iff_eq]; exact h1, by rw [decide_eq_false_iff_not]; omega⟩))
    · by_cases h2 : (n : Int) < s.at_
      · exact .inr ⟨rfl, by rw [beq_eq_false_iff_ne]; exact h1, by rw [decide_eq_true_iff]; exact h2⟩
      · exact .inl (.inr (.inr ⟨rfl, by rw [beq_eq_false_iff_ne]; exact h1, by rw [decide_eq_false_iff_not]; exact h2⟩))
theorem low_same {n : Nat} {s : Sl} (h : s.used = false ∨ decide ((n : Int) < s.at_) = false) : lowS n s = s := by
  rw [lowS]
  split
  · rename_i hu
    rcases h with h | h
    · rw [h] at hu; cases hu
    · rw [decide_eq_false_iff_not] at h
      rw [lowA, if_neg h, ← hu]
  · rfl
theorem low_less {n : Nat} {s : Sl} (hu : s.used = true) (h : decide ((n : Int) < s.at_) = true) : lowS n s = ⟨s.gen, s.used, s.at_ - 1⟩ := by
  rw [lowS, if_pos hu, lowA, if_pos (by rw [decide_eq_true_iff] at h; exact h), hu]
set_option maxRecDepth 100000 in
set_option maxHeartbeats 4000000 in
/-- one reference, while an object is freed -/
theorem free_step {m m2 m' : Mo} {S1 : List Sl} {w wr W : World} {n i n' gf b1 p6 pb z : Nat} {t o s : Value} {r3c r4c : Array Value} {b : Bool} {X : Prop} (hm2 : m2 = ⟨m.types, m.objs, S1.map (lowS n')⟩) (hn : n < m2.objs.length) (hi : i < (ob m2 n).fs.length) (hk3 : ((ty m2.types (ob m2 n)).getD i 0).toNat = 3) (hn1 : n' ≤ 1000) (hz : z ≤ pb)
    (omW : OwnM W b1 68 t o s m') (ofW : OwnF W b1 o m'.objs n gf) (a1 : m' = mapP (lowV n') m2 n i) (a2 : b = true ↔ X ∨ refTo m n' n i) (a3 : Bx W z 79 r3c) (a4 : Bx W p6 79 r4c) (a5 : Bx W (p6 + 1) 3 #[.int .i64 n']) (a6 : Bx W pb 4 #[.bool b]) (a7 : Below w.heap.size w W)
    (hpbw : w.heap.size ≤ pb) (hp7 : p6 + 1 < pb) (hpz : pb < wr.heap.size) (hb1 : w.heap.size ≤ b1) :
    Calls Try.prog 119 (#[] ++ (#[.int .i64 n, .pointer (some ⟨gf, i, none⟩)] ++ #[.pointer (some ⟨pb, 0, none⟩), .pointer (some ⟨p6 + 1, 0, none⟩)])) W fun e W' => e = .returned (.tuple #[]) ∧ ∃ m'', Like m2 m'' ∧ OwnM W' b1 68 t o s m'' ∧ OwnF W' b1 o m''.objs n gf ∧
      (m'' = mapP (lowV n') m2 n (i + 1) ∧ ∃ b : Bool, (b = true ↔ X ∨ refTo m n' n (i + 1)) ∧ Bx W' z 79 r3c ∧ Bx W' p6 79 r4c ∧ Bx W' (p6 + 1) 3 #[.int .i64 n'] ∧ Bx W' pb 4 #[.bool b] ∧ Below w.heap.size w W') ∧ Fr wr.heap.size W W' ∧ KeepB b1 W W' := by
  obtain ⟨o', ho', hfi⟩ := mapP_fld (φ := lowV n') (m := m2) hn hi
  rw [← a1] at ho'
  obtain ⟨mc, mf, gB, gL⟩ := ofW.cell ho' hfi
  have hnl : n < m'.objs.length := (List.getElem?_eq_some_iff.1 ho').1
  have ne1 : gf ≠ pb := ofW.ne_bx hnl a6 (by decide)
  have ne3 : gf ≠ z := ofW.ne_bx hnl a3 (by decide)
  have ne4 : gf ≠ p6 := ofW.ne_bx hnl a4 (by decide)
  have ne5 : gf ≠ p6 + 1 := ofW.ne_bx hnl a5 (by decide)
  have hzp : z ≠ pb := by
    rintro rfl
    have e1 := a3; have e2 := a6
    unfold Bx at e1 e2; rw [e1] at e2; injection e2 with e2; injection e2 with _ e3; exact absurd e3 (by decide)
  refine (Free1_any n n' gf i pb (p6 + 1) ((ob m2 n).fs.getD i 0) b _ rfl hn1 W mc mf a6 a5 ne1 (by omega)).mono ?_
  rintro e w' ⟨rfl, q, hw'⟩
  refine ⟨rfl, ?_⟩
  obtain ⟨b', hb'⟩ : ∃ b', b' = (b || (decide (n ≠ n') && decide (((ob m2 n).fs.getD i 0).toNat = n' + 1))) := ⟨_, rfl⟩
  rw [← hb'] at hw'
  obtain ⟨W1, hW1⟩ : ∃ W1, W1 = ((W.drew).setCell ⟨pb, 0, none⟩ (.bool b')).drewN q := ⟨_, rfl⟩
  rw [← hW1] at hw'
  have hRT : b' = true ↔ X ∨ refTo m n' n (i + 1) := by
    have e0 : refTo m2 n' n (i + 1) ↔ refTo m n' n (i + 1) := by subst hm2; exact Iff.rfl
    have e1 : refTo m2 n' n i ↔ refTo m n' n i := by subst hm2; exact Iff.rfl
    rw [← e0, refTo_step hn hi, e1, ← or_assoc, ← a2, hb', isRef]
    simp only [Bool.or_eq_true, Bool.and_eq_true, decide_eq_true_iff]
    exact or_congr Iff.rfl ⟨fun h => ⟨h.1, hk3, h.2⟩, fun h => ⟨h.1, h.2.2⟩⟩
  have oM1 : OwnM W1 b1 68 t o s m' := by
    rw [hW1]
    exact ⟨OwnT.set (w := W.drew) omW.t a6 (by decide) (by decide), OwnO.set (w := W.drew) omW.o a6 (by decide) (by decide), own_set (w := W.drew) omW.s a6 (by decide)⟩
  have oF1 : OwnF W1 b1 o m'.objs n gf := by rw [hW1]; exact OwnF.set (w := W.drew) ofW a6 (by decide) (by decide)
  have x3 : Bx W1 z 79 r3c := by rw [hW1]; exact Bx.far (w := W.drew) a3 (p := ⟨pb, 0, none⟩) hzp _
  have x4 : Bx W1 p6 79 r4c := by rw [hW1]; exact Bx.far (w := W.drew) a4 (p := ⟨pb, 0, none⟩) (by show _ ≠ pb; omega) _
  have x5 : Bx W1 (p6 + 1) 3 #[.int .i64 n'] := by rw [hW1]; exact Bx.far (w := W.drew) a5 (p := ⟨pb, 0, none⟩) (by show _ ≠ pb; omega) _
  have x9 : Bx W1 pb 4 #[.bool b'] := by
    rw [hW1]
    have k : Bx (W.drew.setCell ⟨pb, 0, none⟩ (.bool b')) pb 4 #[.bool b'] := by
      have := Bx.set (w := W.drew) (i := 0) a6 (.bool b')
      simpa using this
    exact k
  have xB : Below w.heap.size w W1 := by rw [hW1]; exact (below_drewN (((a7.drew).setCell (p := ⟨pb, 0, none⟩) hpbw _)) q)
  have hs1 : W1.heap.size = W.heap.size := by rw [hW1]; show (W.setCell ⟨pb, 0, none⟩ (.bool b')).heap.size = _; simp [World.setCell]
  have fr1 : Fr wr.heap.size W W1 := ⟨by rw [hs1]; exact Nat.le_refl _, fun g t' cs hg _ hx => by rw [hW1]; exact Bx.far (w := W.drew) hx (p := ⟨pb, 0, none⟩) (by show _ ≠ pb; omega) _⟩
  have kb1 : KeepB b1 W W1 := fun v l hv => by rw [hW1]; exact own_set (w := W.drew) hv a6 (by decide)
  have hlv : lowV n' ((ty m2.types (ob m2 n)).getD i 0) ((ob m2 n).fs.getD i 0) = if n' + 1 < ((ob m2 n).fs.getD i 0).toNat then (ob m2 n).fs.getD i 0 - 1 else (ob m2 n).fs.getD i 0 := by
    rw [lowV]
    by_cases h : n' + 1 < ((ob m2 n).fs.getD i 0).toNat
    · rw [if_pos ⟨hk3, h⟩, if_pos h]
    · rw [if_neg (fun hh => h hh.2), if_neg h]
  by_cases hlt : n' + 1 < ((ob m2 n).fs.getD i 0).toNat
  · rw [if_pos hlt] at hw' hlv
    have e1 : (((ob m2 n).fs.getD i 0) - 1).toNat = ((ob m2 n).fs.getD i 0).toNat - 1 := by
      have hone : (1 : UInt64) ≤ (ob m2 n).fs.getD i 0 := by rw [UInt64.le_iff_toNat_le]; show 1 ≤ _; omega
      rw [UInt64.toNat_sub_of_le _ _ hone]; rfl
    have hst := OwnM.storeF oM1 oF1 ho' hfi ((ob m2 n).fs.getD i 0 - 1)
    have hmp : putF m' n i ((ob m2 n).fs.getD i 0 - 1) = mapP (lowV n') m2 n (i + 1) := by rw [a1, ← hlv]; exact mapP_step hn hi
    rw [e1, ← hw', hmp] at hst
    obtain ⟨k1, k2, k3⟩ := hst
    have far : ∀ {g t' cs}, gf ≠ g → Bx W1 g t' cs → Bx w' g t' cs := fun hne hx => hx.grown k3 (.inr (fun e => hne (by injection e)))
    refine ⟨_, mapP_like, k1, k2, ⟨rfl, b', hRT, far ne3 x3, far ne4 x4, far ne5 x5, far ne1 x9, xB.grown k3 (by have := a7.size; have := hs1; omega) (fun k hk => by injection hk with hk; omega)⟩, ⟨by rw [← hs1]; exact k3.size, fun g t' cs hg hne hx => ?_⟩, fun v l hv => ?_⟩
    · have := fr1.2 g t' cs hg hne hx
      exact far (ofW.ne_bx hnl hx (Ne.symm hne)) this
    · obtain ⟨vs, nf, cf, h1, h2, h4, h5, h6⟩ := oF1
      exact World.ownsRow.kept (kb1 v l hv) k3 (own_unlike (kb1 v l hv) (h4 n _ _ h6 (List.getElem?_eq_getElem hnl)) (by decide))
  · rw [if_neg hlt] at hw' hlv
    have hmp : m' = mapP (lowV n') m2 n (i + 1) := by rw [a1]; exact (mapP_skip hlv).symm
    subst hw'
    exact ⟨m', by rw [hmp]; exact mapP_like, oM1, oF1, ⟨hmp, b', hRT, x3, x4, x5, x9, xB⟩, fr1, kb1⟩
/-- freeing where the model or the handle is not right -/
theorem Free20_no (tv ov sv : Value) (m : Mo) (sl g : Int) (r : Int) (hr : r = asked m sl g) (ha : ¬ asked m sl g = 0) (w : World) (h : Mod w tv ov sv m) :
    Calls Try.prog 84 #[.agg #[tv, ov, sv], .agg #[.int .i64 sl, .int .i64 g]] w fun e w' => ∃ t' o' s', e = .returned (.tuple #[.agg #[t', o', s'], .int .i64 r]) ∧ Mod w' t' o' s' .nil ∧ Below w.heap.size w w' := by
  have B : Below w.heap.size w w := Below.refl _ _
  have H := Lib.hid h
  have OT := Lib.hid (fun w h => open20_no tv ov sv m sl g r hr (by rw [hr]; exact ha) w h)
  have hne : (r != 0) = true := by rw [bne_iff_ne, hr]; exact ha
  clear hr ha h
  go_enter Try.func84, Try.ntmps84
  go_upto_region 1 with (fail)
  refine wp_gen (fun Wv => Bx Wv (w.heap.size) (79) (#[tv, ov, sv]) ∧ Bx Wv (w.heap.size + 1) (103) (#[.int .i64 sl, .int .i64 g]) ∧ Bx Wv (w.heap.size + 1 + 1) (79) (#[.slice none 0 0, .slice none 0 0, .slice none 0 0]) ∧ Below w.heap.size w Wv) ⟨((((Bx.at_ (by simp)).alloc _).alloc _)), (((Bx.at_ (by simp)).alloc _)), ((Bx.at_ (by simp))), ((((Below.refl _ w).alloc (by simp <;> omega) _).alloc (by simp <;> omega) _).alloc (by simp <;> omega) _)⟩ ?_
  rintro wa1 ⟨g1, g2, g3, b⟩
  replace B := B.trans (b.mono B.size); clear b
  have c_g1 := g1.cell; have f_g1 := g1.free; have a_g1 := fun o => (g1.alloc o).cell; have d_g1 := fun o o2 => ((g1.alloc o).alloc o2).cell; have e_g1 := fun o => (g1.alloc o).free
  have c_g2 := g2.cell; have f_g2 := g2.free; have a_g2 := fun o => (g2.alloc o).cell; have d_g2 := fun o o2 => ((g2.alloc o).alloc o2).cell; have e_g2 := fun o => (g2.alloc o).free
  have c_g3 := g3.cell; have f_g3 := g3.free; have a_g3 := fun o => (g3.alloc o).cell; have d_g3 := fun o o2 => ((g3.alloc o).alloc o2).cell; have e_g3 := fun o => (g3.alloc o).free
  go_wp2_with fail
  refine (OT.out _ (H.out.below B)).mono ?_
  rintro e wa2 ⟨rfl, b⟩
  try clear c_g1 f_g1 a_g1 d_g1 e_g1
  replace g1 := g1.below b; have c_g1 := g1.cell; have f_g1 := g1.free; have a_g1 := fun o => (g1.alloc o).cell; have d_g1 := fun o o2 => ((g1.alloc o).alloc o2).cell; have e_g1 := fun o => (g1.alloc o).free; try clear c_g2 f_g2 a_g2 d_g2 e_g2
  replace g2 := g2.below b; have c_g2 := g2.cell; have f_g2 := g2.free; have a_g2 := fun o => (g2.alloc o).cell; have d_g2 := fun o o2 => ((g2.alloc o).alloc o2).cell; have e_g2 := fun o => (g2.alloc o).free; try clear c_g3 f_g3 a_g3 d_g3 e_g3
  replace g3 := g3.below b; have c_g3 := g3.cell; have f_g3 := g3.free; have a_g3 := fun o => (g3.alloc o).cell; have d_g3 := fun o o2 => ((g3.alloc o).alloc o2).cell; have e_g3 := fun o => (g3.alloc o).free; replace B := B.trans (b.mono B.size); clear b
  go_upto_region 2 with (fail)
  refine wp_gen (fun Wv => Bx Wv (wa2.heap.size) (79) (#[.slice none 0 0, .slice none 0 0, .slice none 0 0]) ∧ Below wa2.heap.size wa2 Wv) ⟨(((Bx.at_ (by simp)).alloc _)), (((Below.refl _ wa2).alloc (by simp <;> omega) _).alloc (by simp <;> omega) _)⟩ ?_
  rintro wa3 ⟨g4, b⟩
  try clear c_g1 f_g1 a_g1 d_g1 e_g1
  replace g1 := g1.below b; have c_g1 := g1.cell; have f_g1 := g1.free; have a_g1 := fun o => (g1.alloc o).cell; have d_g1 := fun o o2 => ((g1.alloc o).alloc o2).cell; have e_g1 := fun o => (g1.alloc o).free; try clear c_g2 f_g2 a_g2 d_g2 e_g2
  replace g2 := g2.below b; have c_g2 := g2.cell; have f_g2 := g2.free; have a_g2 := fun o => (g2.alloc o).cell; have d_g2 := fun o o2 => ((g2.alloc o).alloc o2).cell; have e_g2 := fun o => (g2.alloc o).free; try clear c_g3 f_g3 a_g3 d_g3 e_g3
  replace g3 := g3.below b; have c_g3 := g3.cell; have f_g3 := g3.free; have a_g3 := fun o => (g3.alloc o).cell; have d_g3 := fun o o2 => ((g3.alloc o).alloc o2).cell; have e_g3 := fun o => (g3.alloc o).free; replace B := B.trans (b.mono B.size); clear b
  have c_g4 := g4.cell; have f_g4 := g4.free; have a_g4 := fun o => (g4.alloc o).cell; have d_g4 := fun o o2 => ((g4.alloc o).alloc o2).cell; have e_g4 := fun o => (g4.alloc o).free
  go_wp2
  refine bodyPost_ret (v := .tuple #[.agg #[.slice none 0 0, .slice none 0 0, .slice none 0 0], .int .i64 r]) (by simp [results, Try.results84, go_sem, c_g3, f_g3]) rfl ?_
  refine ⟨_, _, _, rfl, Mod.nil _, ?_⟩
  (repeat (first | refine Below.setCell ?_ (by first | exact Nat.le_refl _ | (simp <;> omega)) _ | refine Below.alloc ?_ (by first | exact B.size | (have := B.size; simp <;> omega)) _)); exact B
set_option maxRecDepth 100000 in
set_option maxHeartbeats 8000000 in
theorem Free20_any (tv ov sv : Value) (m : Mo) (sl g : Int) (M : Mo) (r : Int) (hM : M = freeM m sl g) (hr : r = freeE m sl g) (w : World) (h : Mod w tv ov sv m) :
    Calls Try.prog 84 #[.agg #[tv, ov, sv], .agg #[.int .i64 sl, .int .i64 g]] w fun e w' => ∃ t' o' s', e = .returned (.tuple #[.agg #[t', o', s'], .int .i64 r]) ∧ Mod w' t' o' s' M ∧ Below w.heap.size w w' := by
  by_cases ha : asked m sl g = 0
  · have B : Below w.heap.size w w := Below.refl _ _
    have H := Lib.hid h
    obtain ⟨c0, hr0, k, s, n', o, t, hk, hk16, hs, hu, hg, hso, hat, hown, hob1, _⟩ := asked_ok ha
    have OT := Lib.hid (fun w h => open20_ok tv ov sv m sl g n' ha hown w h)
    obtain ⟨_, hobjs, h16, _⟩ := chk_ok c0
    have hn' : n' < m.objs.length := (List.getElem?_eq_some_iff.1 hob1).1
    have hBU := fun n => busy_iff (m := m) (k := k) (g := g) (by rw [h16]; exact hk16) n
    subst hk
    have hM1 : M = if Busy m (k : Int) n' then .nil else ⟨m.types, (m.objs.map (lowO m n')).eraseIdx n', (m.slots.set k ⟨g, false, 0⟩).map (lowS n')⟩ := by
      rw [hM, freeM, freeE, if_pos ha, hown]
      by_cases hb : Busy m (k : Int) n'
      · rw [if_pos hb, if_pos hb]; rfl
      · rw [if_neg hb, if_neg hb]; rfl
    have hr1 : r = if Busy m (k : Int) n' then 45 else 0 := by rw [hr, freeE, if_pos ha, hown]
    have HM := Lib.hid hM1; have HRR := Lib.hid hr1; have HBU := Lib.hid (hBU n')
    have HS := Lib.hid hs; have H16 := Lib.hid h16; have HOB := Lib.hid hobjs; have HN := Lib.hid hn'; have HRO := Lib.hid (rough_chk c0)
    obtain ⟨S1, hS1⟩ : ∃ S, S = m.slots.set k ⟨g, false, 0⟩ := ⟨_, rfl⟩
    have HS1 := Lib.hid hS1
    have H1L := Lib.hid (show S1.length = 16 by rw [hS1, List.length_set]; exact h16)
    have H1B := Lib.hid (show ∀ s ∈ S1, s.used = true → 0 ≤ s.at_ ∧ s.at_ ≤ 1000 from by
      intro s2 hs2 hu2
      rw [hS1] at hs2
      rcases List.mem_or_eq_of_mem_set hs2 with h | h
      · have := ((chk_ok c0).2.2.2.2.2 s2 h).2.2 hu2; omega
      · rw [h] at hu2; cases hu2)
    clear hr hM ha c0 hr0 hu hso hat hown h hs h16 hM1 hr1 hBU hS1 hobjs hob1
    have hn1 : n' ≤ 1000 := by have := HN.out; have := HOB.out; omega
    clear hn'
    go_enter Try.func84, Try.ntmps84
    go_upto_region 1 with (fail)
    refine wp_gen (fun Wv => Bx Wv (w.heap.size) (79) (#[tv, ov, sv]) ∧ Bx Wv (w.heap.size + 1) (103) (#[.int .i64 k, .int .i64 g]) ∧ Bx Wv (w.heap.size + 1 + 1) (79) (#[.slice none 0 0, .slice none 0 0, .slice none 0 0]) ∧ Below w.heap.size w Wv) ⟨((((Bx.at_ (by simp)).alloc _).alloc _)), (((Bx.at_ (by simp)).alloc _)), ((Bx.at_ (by simp))), ((((Below.refl _ w).alloc (by simp <;> omega) _).alloc (by simp <;> omega) _).alloc (by simp <;> omega) _)⟩ ?_
    rintro wa1 ⟨g1, g2, g3, b⟩
    replace B := B.trans (b.mono B.size); clear b
    have c_g1 := g1.cell; have f_g1 := g1.free; have a_g1 := fun o => (g1.alloc o).cell; have d_g1 := fun o o2 => ((g1.alloc o).alloc o2).cell; have e_g1 := fun o => (g1.alloc o).free
    have c_g2 := g2.cell; have f_g2 := g2.free; have a_g2 := fun o => (g2.alloc o).cell; have d_g2 := fun o o2 => ((g2.alloc o).alloc o2).cell; have e_g2 := fun o => (g2.alloc o).free
    have c_g3 := g3.cell; have f_g3 := g3.free; have a_g3 := fun o => (g3.alloc o).cell; have d_g3 := fun o o2 => ((g3.alloc o).alloc o2).cell; have e_g3 := fun o => (g3.alloc o).free
    have hz1 := B.size; have hp1 := g3.lt
    go_wp2_with fail
    refine (OT.out _ (H.out.below B)).mono ?_
    rintro e wa2 ⟨t', o', s', rfl, om, b⟩
    try clear c_g1 f_g1 a_g1 d_g1 e_g1
    replace g1 := g1.below b; have c_g1 := g1.cell; have f_g1 := g1.free; have a_g1 := fun o => (g1.alloc o).cell; have d_g1 := fun o o2 => ((g1.alloc o).alloc o2).cell; have e_g1 := fun o => (g1.alloc o).free; try clear c_g2 f_g2 a_g2 d_g2 e_g2
    replace g2 := g2.below b; have c_g2 := g2.cell; have f_g2 := g2.free; have a_g2 := fun o => (g2.alloc o).cell; have d_g2 := fun o o2 => ((g2.alloc o).alloc o2).cell; have e_g2 := fun o => (g2.alloc o).free; try clear c_g3 f_g3 a_g3 d_g3 e_g3
    replace g3 := g3.below b; have c_g3 := g3.cell; have f_g3 := g3.free; have a_g3 := fun o => (g3.alloc o).cell; have d_g3 := fun o o2 => ((g3.alloc o).alloc o2).cell; have e_g3 := fun o => (g3.alloc o).free; replace B := B.trans (b.mono B.size); clear b
    obtain ⟨⟨tA, tn, tc, rfl⟩, ⟨oA, on, oc, rfl⟩, _⟩ := om.forms
    obtain ⟨gS, sc, rfl⟩ : ∃ g c, s' = .slice (some ⟨g, 0, none⟩) 16 c := by obtain ⟨g, n, c, e, e2⟩ := om.s.form (by have := H16.out; omega); rw [e2, H16.out] at e; exact ⟨g, c, e⟩
    have hgS := om.s.lt gS rfl; have hz_ := (om.s.lt gS rfl).1
    go_upto_region 2 with (fail)
    refine wp_gen (fun Wv => Bx Wv (wa2.heap.size) (79) (#[.slice tA tn tc, .slice oA on oc, .slice (some ⟨gS, 0, none⟩) 16 sc]) ∧ Bx Wv (wa2.heap.size + 1) (3) (#[.int .i64 n']) ∧ Below wa2.heap.size wa2 Wv) ⟨(((Bx.at_ (by simp)).alloc _)), ((Bx.at_ (by simp))), (((Below.refl _ wa2).alloc (by simp <;> omega) _).alloc (by simp <;> omega) _)⟩ ?_
    rintro wa3 ⟨g4, g5, b⟩
    try clear c_g1 f_g1 a_g1 d_g1 e_g1
    replace g1 := g1.below b; have c_g1 := g1.cell; have f_g1 := g1.free; have a_g1 := fun o => (g1.alloc o).cell; have d_g1 := fun o o2 => ((g1.alloc o).alloc o2).cell; have e_g1 := fun o => (g1.alloc o).free; try clear c_g2 f_g2 a_g2 d_g2 e_g2
    replace g2 := g2.below b; have c_g2 := g2.cell; have f_g2 := g2.free; have a_g2 := fun o => (g2.alloc o).cell; have d_g2 := fun o o2 => ((g2.alloc o).alloc o2).cell; have e_g2 := fun o => (g2.alloc o).free; try clear c_g3 f_g3 a_g3 d_g3 e_g3
    replace g3 := g3.below b; have c_g3 := g3.cell; have f_g3 := g3.free; have a_g3 := fun o => (g3.alloc o).cell; have d_g3 := fun o o2 => ((g3.alloc o).alloc o2).cell; have e_g3 := fun o => (g3.alloc o).free; replace om := om.below b; replace B := B.trans (b.mono B.size); clear b
    have c_g4 := g4.cell; have f_g4 := g4.free; have a_g4 := fun o => (g4.alloc o).cell; have d_g4 := fun o o2 => ((g4.alloc o).alloc o2).cell; have e_g4 := fun o => (g4.alloc o).free
    have c_g5 := g5.cell; have f_g5 := g5.free; have a_g5 := fun o => (g5.alloc o).cell; have d_g5 := fun o o2 => ((g5.alloc o).alloc o2).cell; have e_g5 := fun o => (g5.alloc o).free
    have HP := Lib.hid (OwnS.put3 (k := k) om.s (by have := H16.out; omega) ⟨g, false, 0⟩)
    obtain ⟨ix, p0, p1, p2⟩ := OwnS.cells om.s HS.out
    have fz := HP.out.2.2.2.2
    have hM3 := OwnM.slots om HP.out.2.1 HP.out.1
    have nx := fun {q : Nat} {tq : TypeId} {cs : Array Value} (hb : Bx wa3 q tq cs) (hne : gS ≠ q) => hb.grown HP.out.2.1 (.inr (fun e => hne (by injection e)))
    have r3 := nx g3 (by omega); have r4 := nx g4 (by omega); have r5 := nx g5 (by omega)
    have hb3 := B.grown HP.out.2.1 B.size (fun k hk => by injection hk with hk; rw [← hk]; have := HP.out.2.2.1; omega)
    rw [← HS1.out] at hM3
    have HH := Lib.hid (And.intro hM3 (And.intro r3 (And.intro r4 (And.intro r5 hb3))))
    clear nx r3 r4 r5 hb3 hM3
    go_upto_region 5 with (fail)
    generalize hp6 : wa2.heap.size = p6 at *
    refine wp_gen (fun Wv => OwnM Wv wa1.heap.size 68 (.slice tA tn tc) (.slice oA on oc) (.slice (some ⟨gS, 0, none⟩) 16 sc) ⟨m.types, m.objs, S1⟩ ∧ Bx Wv (w.heap.size + 1 + 1) 79 #[.slice none 0 0, .slice none 0 0, .slice none 0 0] ∧ Bx Wv p6 79 #[.slice tA tn tc, .slice oA on oc, .slice (some ⟨gS, 0, none⟩) 16 sc] ∧ Bx Wv (p6 + 1) 3 #[.int .i64 n'] ∧ Below w.heap.size w Wv) HH.out ?_
    rintro wz ⟨om2, r3, r4, r5, B2⟩
    obtain ⟨b1, hb1⟩ : ∃ b, b = wa1.heap.size := ⟨_, rfl⟩
    rw [← hb1] at om2
    have hb13 : w.heap.size + 1 + 1 < b1 := by omega
    have hb16 : b1 ≤ p6 := by omega
    have hg6 : gS < p6 := by omega
    clear HH om g1 g2 g3 g4 g5 B p0 p1 p2 fz ix HP c_g1 f_g1 a_g1 d_g1 e_g1 c_g2 f_g2 a_g2 d_g2 e_g2 c_g3 f_g3 a_g3 d_g3 e_g3 c_g4 f_g4 a_g4 d_g4 e_g4 c_g5 f_g5 a_g5 d_g5 e_g5 hb1 hp6 hz1 hp1 hgS hz_
    have hp7 := r5.lt
    have bz := (Below.refl wz.heap.size wz).alloc (Nat.le_refl _) (.cells #[.bool false] 4)
    have HZ := Lib.hid (And.intro (OwnM.below om2 bz) (And.intro (r3.below bz) (And.intro (r4.below bz) (And.intro (r5.below bz) (And.intro (Bx.new wz 4 #[.bool false]) (And.intro (B2.trans (bz.mono B2.size)) (show wz.heap.size < (wz.alloc (.cells #[.bool false] 4)).heap.size by simp)))))))
    clear om2 r3 r4 r5 B2 bz
    go_upto_region 6 with (fail)
    generalize hpb : wz.heap.size = pb at *
    refine wp_gen (fun Wv => OwnM Wv b1 68 (.slice tA tn tc) (.slice oA on oc) (.slice (some ⟨gS, 0, none⟩) 16 sc) ⟨m.types, m.objs, S1⟩ ∧ Bx Wv (w.heap.size + 1 + 1) 79 #[.slice none 0 0, .slice none 0 0, .slice none 0 0] ∧ Bx Wv p6 79 #[.slice tA tn tc, .slice oA on oc, .slice (some ⟨gS, 0, none⟩) 16 sc] ∧ Bx Wv (p6 + 1) 3 #[.int .i64 n'] ∧ Bx Wv pb 4 #[.bool false] ∧ Below w.heap.size w Wv ∧ pb < Wv.heap.size) ?_ ?_
    · exact HZ.out
    clear hpb
    rintro wy hy
    have HY := Lib.hid hy
    have c4 := hy.2.2.1.cell
    clear HZ hy
    go_wp2
    clear c4
    go_loopg [34] 16 (fun g i wr => ∃ j : Nat, j ≤ 16 ∧ g = 16 - j ∧ i = .int .i64 j ∧ Hid (∃ bb : Bool, (bb = true ↔ sloTo S1 n' j) ∧ OwnM wr b1 68 (.slice tA tn tc) (.slice oA on oc) (.slice (some ⟨gS, 0, none⟩) 16 sc) ⟨m.types, m.objs, mapT (lowS n') S1 j⟩ ∧ Bx wr (w.heap.size + 1 + 1) 79 #[.slice none 0 0, .slice none 0 0, .slice none 0 0] ∧ Bx wr p6 79 #[.slice tA tn tc, .slice oA on oc, .slice (some ⟨gS, 0, none⟩) 16 sc] ∧ Bx wr (p6 + 1) 3 #[.int .i64 n'] ∧ Bx wr pb 4 #[.bool bb] ∧ Below w.heap.size w wr ∧ pb < wr.heap.size))
    case atStart => exact ⟨0, by omega, by omega, rfl, Lib.hid ⟨false, ⟨fun h => by (cases h), fun h => absurd h sloTo_zero⟩, by rw [mapT_zero]; exact HY.out⟩⟩
    case round =>
      clear HY
      obtain ⟨j, hj, rfl, rfl, hh⟩ := hrel
      obtain ⟨bb, hbb, om, r3, r4, r5, r9, B, hpz⟩ := hh.out
      by_cases hlt : j < 16
      · obtain ⟨s1, hs1⟩ : ∃ s, S1[j]? = some s := ⟨_, List.getElem?_eq_getElem (by rw [H1L.out]; exact hlt)⟩
        have hbs := H1B.out s1 (List.mem_of_getElem? hs1)
        have hs2 := mapT_get (f := lowS n') hs1
        obtain ⟨ix, q0, q1, q2⟩ := OwnS.cells om.s hs2
        have HSL := Lib.hid hs1
        obtain ⟨b0, hb0⟩ : ∃ b, b = bb := ⟨_, rfl⟩
        have HB1 := Lib.hid (fun (b' : Bool) (e : b' = (b0 || (s1.used && (s1.at_ == (n' : Int))))) => show b' = true ↔ sloTo S1 n' (j + 1) from by
          rw [sloTo_step hs1, e, hb0, ← hbb]; simp [Bool.or_eq_true, Bool.and_eq_true])
        have HX := Lib.hid (And.intro om (And.intro r3 (And.intro r4 (And.intro r5 (And.intro r9 (And.intro B hpz))))))
        obtain ⟨wn, hwn⟩ : ∃ W, W = wr := ⟨_, rfl⟩
        subst hwn
        clear hh om r3 r4 r5 r9 B hbb hs1
        go_upto_region 9 with (fail)
        refine wp_gen (fun Wv => Bx Wv wn.heap.size 68 #[.int .i64 s1.gen, .bool s1.used, .int .i64 s1.at_] ∧ Below wn.heap.size wn Wv) ?_ ?_
        · exact ⟨Bx.new wn _ _, (Below.refl _ wn).alloc (Nat.le_refl _) _⟩
        rintro wx ⟨g11, b⟩
        generalize hp11 : wn.heap.size = p11 at *
        have hp11b : pb < p11 := by have := HX.out.2.2.2.2.2.2; omega
        have SX : ∀ x : Bool, OwnM (wx.setCell ⟨pb, 0, none⟩ (.bool x)) b1 68 (.slice tA tn tc) (.slice oA on oc) (.slice (some ⟨gS, 0, none⟩) 16 sc) ⟨m.types, m.objs, mapT (lowS n') S1 j⟩ ∧ Bx (wx.setCell ⟨pb, 0, none⟩ (.bool x)) (w.heap.size + 1 + 1) 79 #[.slice none 0 0, .slice none 0 0, .slice none 0 0] ∧ Bx (wx.setCell ⟨pb, 0, none⟩ (.bool x)) p6 79 #[.slice tA tn tc, .slice oA on oc, .slice (some ⟨gS, 0, none⟩) 16 sc] ∧ Bx (wx.setCell ⟨pb, 0, none⟩ (.bool x)) (p6 + 1) 3 #[.int .i64 n'] ∧ Bx (wx.setCell ⟨pb, 0, none⟩ (.bool x)) pb 4 #[.bool x] ∧ Bx (wx.setCell ⟨pb, 0, none⟩ (.bool x)) p11 68 #[.int .i64 s1.gen, .bool s1.used, .int .i64 s1.at_] ∧ Below w.heap.size w (wx.setCell ⟨pb, 0, none⟩ (.bool x)) ∧ pb < (wx.setCell ⟨pb, 0, none⟩ (.bool x)).heap.size := fun x => by
          subst hp11
          obtain ⟨om, r3, r4, r5, r9, B, hpz⟩ := HX.out
          have om2 := om.below b
          have r92 := r9.below b
          refine ⟨⟨om2.t.set r92 (by decide) (by decide), om2.o.set r92 (by decide) (by decide), own_set om2.s r92 (by decide)⟩, (r3.below b).far (p := ⟨pb, 0, none⟩) (by show _ ≠ pb; omega) _, (r4.below b).far (p := ⟨pb, 0, none⟩) (by show _ ≠ pb; omega) _, (r5.below b).far (p := ⟨pb, 0, none⟩) (by show _ ≠ pb; omega) _, ?_, g11.far (p := ⟨pb, 0, none⟩) (by show _ ≠ pb; omega) _, (B.trans (b.mono B.size)).setCell (p := ⟨pb, 0, none⟩) (by show _ ≤ pb; omega) _, ?_⟩
          · have := r92.set (i := 0) (.bool x); simpa using this
          · have := b.size; simp [World.setCell]; omega
        have c9 := (HX.out.2.2.2.2.1.below (hp11 ▸ b)).cell
        have f9 := (HX.out.2.2.2.2.1.below (hp11 ▸ b)).free
        have c5 := (HX.out.2.2.2.1.below (hp11 ▸ b)).cell
        have c11 := g11.cell
        have SX := Lib.hid SX
        clear g11 b hp11 HX ix q0 q1 q2
        have hlc := low_cases n' s1
        rcases hlc with hlc | ⟨hu, e1, e2⟩
        · have HE := Lib.hid (mapT_same HSL.out (low_same (by rcases hlc with h | h | h; exact .inl h; exact .inr h.2.2; exact .inr h.2.2)))
          rcases bb with _ | _
          all_goals
            rcases hlc with hu | ⟨hu, e1, e2⟩ | ⟨hu, e1, e2⟩
            all_goals
              rw [hu] at c11
              go_upto_region 10 with (fail)
              refine wp_gen (fun Wv => ∃ x : Bool, x = (b0 || (s1.used && (s1.at_ == (n' : Int)))) ∧ OwnM Wv b1 68 (.slice tA tn tc) (.slice oA on oc) (.slice (some ⟨gS, 0, none⟩) 16 sc) ⟨m.types, m.objs, mapT (lowS n') S1 j⟩ ∧ Bx Wv (w.heap.size + 1 + 1) 79 #[.slice none 0 0, .slice none 0 0, .slice none 0 0] ∧ Bx Wv p6 79 #[.slice tA tn tc, .slice oA on oc, .slice (some ⟨gS, 0, none⟩) 16 sc] ∧ Bx Wv (p6 + 1) 3 #[.int .i64 n'] ∧ Bx Wv pb 4 #[.bool x] ∧ Bx Wv p11 68 #[.int .i64 s1.gen, .bool s1.used, .int .i64 s1.at_] ∧ Below w.heap.size w Wv ∧ pb < Wv.heap.size) ⟨_, by first | (rw [hb0, hu, e1]; rfl) | (rw [hb0, hu]; rfl), SX.out _⟩ ?_
              rintro wq ⟨x, hx, om, r3, r4, r5, r9, r11, B, hpz⟩
              have HF := Lib.hid (And.intro (HB1.out x hx) (And.intro om (And.intro r3 (And.intro r4 (And.intro r5 (And.intro r9 (And.intro B hpz)))))))
              clear c9 f9 c5 c11 hx om r3 r4 r9 B
              have c5 := r5.cell
              have c11 := r11.cell
              rw [hu] at c11
              clear r5 r11
              go_wp2
              clear c5 c11
              go_roundg (16 - (j + 1))
              case measure => omega
              case rel =>
                refine ⟨j + 1, by omega, rfl, by go_num, Lib.hid ⟨x, ?_⟩⟩
                rw [HE.out]; exact HF.out
        · have HE := Lib.hid (mapT_set (f := lowS n') HSL.out)
          have HLS := Lib.hid (low_less hu e2)
          have hbd := hbs hu
          have hwr : IntKind.i64.wrap (s1.at_ - 1) = s1.at_ - 1 := IntWalk.i64_in _ (by omega)
          rcases bb with _ | _
          all_goals
            rw [hu] at c11
            go_upto_region 10 with (fail)
            refine wp_gen (fun Wv => ∃ x : Bool, x = (b0 || (s1.used && (s1.at_ == (n' : Int)))) ∧ OwnM Wv b1 68 (.slice tA tn tc) (.slice oA on oc) (.slice (some ⟨gS, 0, none⟩) 16 sc) ⟨m.types, m.objs, mapT (lowS n') S1 j⟩ ∧ Bx Wv (w.heap.size + 1 + 1) 79 #[.slice none 0 0, .slice none 0 0, .slice none 0 0] ∧ Bx Wv p6 79 #[.slice tA tn tc, .slice oA on oc, .slice (some ⟨gS, 0, none⟩) 16 sc] ∧ Bx Wv (p6 + 1) 3 #[.int .i64 n'] ∧ Bx Wv pb 4 #[.bool x] ∧ Bx Wv p11 68 #[.int .i64 s1.gen, .bool s1.used, .int .i64 s1.at_] ∧ Below w.heap.size w Wv ∧ pb < Wv.heap.size) ⟨_, by first | (rw [hb0, hu, e1]; rfl) | (rw [hb0, hu]; rfl), SX.out _⟩ ?_
            rintro wq ⟨x, hx, om, r3, r4, r5, r9, r11, B, hpz⟩
            have HF := Lib.hid (HB1.out x hx)
            clear c9 f9 c5 c11 hx
            have c4 := r4.cell; have c5 := r5.cell
            have c11 := r11.cell
            rw [hu] at c11
            obtain ⟨ix, q0, q1, q2⟩ := OwnS.cells om.s hs2
            have HP := Lib.hid (OwnS.put1 om.s hs2 (s1.at_ - 1))
            have fz := HP.out.2.2.2.2
            have hM3 := OwnM.slots om HP.out.2.1 HP.out.1
            have nx := fun {q : Nat} {tq : TypeId} {cs : Array Value} (hb : Bx wq q tq cs) (hne : gS ≠ q) => hb.grown HP.out.2.1 (.inr (fun e => hne (by injection e)))
            have y3 := nx r3 (own_ne_bx om.s r3 (by decide)); have y4 := nx r4 (own_ne_bx om.s r4 (by decide)); have y5 := nx r5 (own_ne_bx om.s r5 (by decide)); have y9 := nx r9 (own_ne_bx om.s r9 (by decide))
            have hb3 := B.grown HP.out.2.1 B.size (fun k hk => by injection hk with hk; rw [← hk]; have := HP.out.2.2.1; omega)
            have HH := Lib.hid (And.intro hM3 (And.intro y3 (And.intro y4 (And.intro y5 (And.intro y9 (And.intro hb3 (Nat.lt_of_lt_of_le hpz HP.out.2.1.size)))))))
            clear nx y3 y4 y5 y9 hb3 hM3 om r3 r4 r5 r9 r11 B q0 q1
            go_wp2
            clear c4 c5 c11 ix q2 fz
            go_roundg (16 - (j + 1))
            case measure => omega
            case rel =>
              refine ⟨j + 1, by omega, rfl, by go_num, Lib.hid ⟨x, HF.out, ?_⟩⟩
              rw [← HE.out, HLS.out]; exact HH.out
      · obtain rfl : j = 16 := by omega
        rw [mapT_done (by rw [H1L.out]; omega)] at om
        obtain ⟨m2, hm2⟩ : ∃ m2 : Mo, m2 = ⟨m.types, m.objs, S1.map (lowS n')⟩ := ⟨_, rfl⟩
        rw [← hm2] at om
        have hb1r : b1 ≤ wr.heap.size := by have := r4.lt; omega
        obtain ⟨J, hJ⟩ : ∃ J : Nat → Nat → Mo → World → Prop, J = fun n i m' W => m' = mapP (lowV n') m2 n i ∧ ∃ b : Bool, (b = true ↔ sloTo S1 n' 16 ∨ refTo m n' n i) ∧ Bx W (w.heap.size + 1 + 1) 79 #[.slice none 0 0, .slice none 0 0, .slice none 0 0] ∧ Bx W p6 79 #[.slice tA tn tc, .slice oA on oc, .slice (some ⟨gS, 0, none⟩) 16 sc] ∧ Bx W (p6 + 1) 3 #[.int .i64 n'] ∧ Bx W pb 4 #[.bool b] ∧ Below w.heap.size w W := ⟨_, rfl⟩
        have RF := refs_any m2 (.slice tA tn tc) (.slice oA on oc) (.slice (some ⟨gS, 0, none⟩) 16 sc) 119 #[] #[.pointer (some ⟨pb, 0, none⟩), .pointer (some ⟨p6 + 1, 0, none⟩)] b1 J wr hb1r (by rw [hm2]; exact HRO.out _) (fun _ _ => rfl)
          (by
            intro n i m' W W' hj hb
            subst hJ
            obtain ⟨a1, b, a2, a3, a4, a5, a6, a7⟩ := hj
            exact ⟨a1, b, a2, a3.below hb, a4.below hb, a5.below hb, a6.below hb, a7.trans (hb.mono a7.size)⟩)
          (by
            intro n m' W hn hj
            subst hJ; subst hm2
            obtain ⟨a1, b, a2, a3⟩ := hj
            exact ⟨a1.trans mapP_next, b, a2.trans (or_congr Iff.rfl (refTo_next (m := m) hn)), a3⟩)
          (by
            intro n i m' W hn hi hk3 hj
            subst hJ; subst hm2
            obtain ⟨a1, b, a2, a3⟩ := hj
            refine ⟨a1.trans (mapP_skip (if_neg (fun h => hk3 h.1))).symm, b, a2.trans (or_congr Iff.rfl ?_), a3⟩
            rw [refTo_step (m := m) hn hi]
            exact ⟨.inl, fun h => h.elim id (fun h => absurd h.2.1 hk3)⟩)
          (by
            intro n i m' gf W hn hi hk3 hl hW omW ofW hj
            subst hJ
            obtain ⟨a1, b, a2, a3, a4, a5, a6, a7⟩ := hj
            exact free_step hm2 hn hi hk3 hn1 (z := w.heap.size + 1 + 1) (by omega) omW ofW a1 a2 a3 a4 a5 a6 a7 (by omega) (by omega) hpz (by omega))
          m2 (Like.refl _) om (by subst hJ; exact ⟨by rw [mapP_zero], bb, hbb.trans ⟨.inl, fun h => h.elim id (fun h => absurd h refTo_zero)⟩, r3, r4, r5, r9, B⟩)
        have RF := Lib.hid RF; have HM2 := Lib.hid hm2; have HJ := Lib.hid hJ
        have c4 := r4.cell
        clear hh om r3 r4 r5 r9 hbb hJ hm2 B hb1r
        go_wp2_with fail
        refine RF.out.mono ?_
        rintro e wf ⟨rfl, m3, hl3, om, hj3⟩
        rw [HJ.out] at hj3
        obtain ⟨a1, b, a2, r3, r4, r5, r9, B⟩ := hj3
        have hm3 : m3 = ⟨m.types, m.objs.map (lowO m n'), S1.map (lowS n')⟩ := by
          rw [a1, HM2.out]
          exact free_map
        have hN3 : m2.objs.length = m.objs.length := by rw [HM2.out]
        rw [hN3] at a2
        have hbz : b = true ↔ Busy m (k : Int) n' := by rw [HBU.out, a2, HS1.out, H16.out]
        rw [hm3] at om
        clear a1 a2 hl3 c4 RF hN3 hm3
        have c9 := r9.cell; have c3 := r3.cell; have f3 := r3.free
        rcases b with _ | _
        · have hnb : ¬ Busy m (k : Int) n' := fun h => by have := hbz.2 h; cases this
          have hM1 : M = ⟨m.types, (m.objs.map (lowO m n')).eraseIdx n', S1.map (lowS n')⟩ := by rw [HM.out, if_neg hnb, HS1.out]
          have hr1 : r = 0 := by rw [HRR.out, if_neg hnb]
          obtain ⟨gO, oc', hO⟩ : ∃ g c, Value.slice oA on oc = .slice (some ⟨g, 0, none⟩) on c := by
            obtain ⟨vs, z1, z2, _⟩ := om.o
            obtain ⟨g, c, cur, e, _⟩ := own_form z2 (by simp; have := HN.out; omega)
            refine ⟨g, c, ?_⟩
            rw [e]; injection e with _ e2; rw [e2]
          cases hO
          obtain ⟨hon, xs, z2, z1, HER⟩ := om.o.erase (i := n') (by simpa using HN.out) (by simp; have := HOB.out; omega)
          have hon2 : on = m.objs.length := by simpa using hon
          have hni : n' < on := by rw [hon2]; exact HN.out
          have DE := Lib.hid (Delete_any gO on oc n' (n' + 1) b1 xs rfl hni (by have := HOB.out; omega) wf z2 z1)
          have OM := Lib.hid om; have HER := Lib.hid HER
          have c4 := r4.cell; have c5 := r5.cell
          have hw1 : IntKind.i64.wrap ((n' : Int) + 1) = (n' : Int) + 1 := IntWalk.i64_in _ (by omega)
          clear om z1 z2 hon hon2 hbz hnb
          subst hM1; subst hr1
          go_wp2_with fail
          refine DE.out.mono ?_
          rintro e wd ⟨rfl, od, gd⟩
          have oO2 := HER.out wd gd od
          have neq : ∀ {q : Nat} {tq : TypeId} {cs : Array Value}, Bx wf q tq cs → 136 ≠ tq → gO ≠ q := fun hx hne => by
            obtain ⟨vs, z1, z2, _⟩ := OM.out.o
            exact own_ne_bx z2 hx hne
          have nx := fun {q : Nat} {tq : TypeId} {cs : Array Value} (hb : Bx wf q tq cs) (hne : gO ≠ q) => hb.grown gd (.inr (fun e => hne (by injection e)))
          have y3 := nx r3 (neq r3 (by decide)); have y4 := nx r4 (neq r4 (by decide))
          have hgO : b1 ≤ gO := by
            obtain ⟨vs, z1, z2, _⟩ := OM.out.o
            exact (z2.lt gO rfl).1
          have B2 := B.grown gd B.size (fun k hk => by injection hk with hk; omega)
          have om2 : OwnM wd b1 68 (.slice tA tn tc) (.slice (some ⟨gO, 0, none⟩) (on - 1) oc) (.slice (some ⟨gS, 0, none⟩) 16 sc) ⟨m.types, (m.objs.map (lowO m n')).eraseIdx n', S1.map (lowS n')⟩ := by
            obtain ⟨vs, z1, z2, _⟩ := OM.out.o
            exact ⟨OwnT.kept OM.out.t z2 gd (by decide) (by decide), oO2, World.ownsRow.kept OM.out.s gd (own_unlike OM.out.s z2 (by decide))⟩
          obtain ⟨on1, hon1⟩ : ∃ n, n = on - 1 := ⟨_, rfl⟩
          rw [← hon1] at om2 ⊢
          have om3 := om2.set (i := 1) (u := .slice (some ⟨gO, 0, none⟩) on1 oc) y4
          have y43 := y4.set (i := 1) (.slice (some ⟨gO, 0, none⟩) on1 oc)
          have y33 := y3.far (p := ⟨p6, 1, none⟩) (by show _ ≠ p6; omega) (.slice (some ⟨gO, 0, none⟩) on1 oc)
          have B3 := B2.setCell (p := ⟨p6, 1, none⟩) (by show _ ≤ p6; omega) (.slice (some ⟨gO, 0, none⟩) on1 oc)
          have HF := Lib.hid (And.intro om3 (And.intro y33 (And.intro (show Bx (wd.setCell ⟨p6, 1, none⟩ (.slice (some ⟨gO, 0, none⟩) on1 oc)) p6 79 #[.slice tA tn tc, .slice (some ⟨gO, 0, none⟩) on1 oc, .slice (some ⟨gS, 0, none⟩) 16 sc] by simpa using y43) B3)))
          have cy4 := y4.cell; have fy4 := y4.free
          clear om3 y33 y43 B3 om2 y3 y4 nx neq B2 oO2 gd od r3 r4 r5 r9 B c9 c3 f3 c4 c5 hon1 OM HER DE
          go_upto_region 17 with (fail)
          refine wp_gen (fun Wv => OwnM Wv b1 68 (.slice tA tn tc) (.slice (some ⟨gO, 0, none⟩) on1 oc) (.slice (some ⟨gS, 0, none⟩) 16 sc) ⟨m.types, (m.objs.map (lowO m n')).eraseIdx n', S1.map (lowS n')⟩ ∧ Bx Wv (w.heap.size + 1 + 1) 79 #[.slice none 0 0, .slice none 0 0, .slice none 0 0] ∧ Bx Wv p6 79 #[.slice tA tn tc, .slice (some ⟨gO, 0, none⟩) on1 oc, .slice (some ⟨gS, 0, none⟩) 16 sc] ∧ Below w.heap.size w Wv) HF.out ?_
          clear HF cy4 fy4
          rintro wl ⟨om3, r3, r4, B3⟩
          have c3 := r3.cell; have f3 := r3.free; have c4 := r4.cell
          go_wp2
          refine bodyPost_ret (v := .tuple #[.agg #[.slice tA tn tc, .slice (some ⟨gO, 0, none⟩) on1 oc, .slice (some ⟨gS, 0, none⟩) 16 sc], .int .i64 0]) (by simp [results, Try.results84, go_sem, c3, f3]) rfl ?_
          refine ⟨_, _, _, rfl, (OwnM.set3 om3 r3).rd, ?_⟩
          exact ((B3.setCell (p := ⟨w.heap.size + 1 + 1, 0, none⟩) (by simp; omega) _).setCell (p := ⟨w.heap.size + 1 + 1, 1, none⟩) (by simp; omega) _).setCell (p := ⟨w.heap.size + 1 + 1, 2, none⟩) (by simp; omega) _
        · have hM1 : M = .nil := by rw [HM.out, if_pos (hbz.1 rfl)]
          have hr1 : r = 45 := by rw [HRR.out, if_pos (hbz.1 rfl)]
          subst hM1; subst hr1
          clear om r4 r5 hbz
          go_wp2
          refine bodyPost_ret (v := .tuple #[.agg #[.slice none 0 0, .slice none 0 0, .slice none 0 0], .int .i64 45]) (by simp [results, Try.results84, go_sem, c3, f3]) rfl ?_
          refine ⟨_, _, _, rfl, Mod.nil _, ?_⟩
          exact ((B.setCell (p := ⟨w.heap.size + 1 + 1, 0, none⟩) (by simp; omega) _).setCell (p := ⟨w.heap.size + 1 + 1, 1, none⟩) (by simp; omega) _).setCell (p := ⟨w.heap.size + 1 + 1, 2, none⟩) (by simp; omega) _
  · have hr1 : r = asked m sl g := by rw [hr, freeE, if_neg ha]
    have hM1 : M = .nil := by
      rw [hM, freeM, if_neg]; rw [freeE, if_neg ha]; exact ha
    rw [hM1]
    exact Free20_no tv ov sv m sl g r hr1 ha w h
end Go.Proofs.Ytbfmdbeeiicabaa
namespace Go.Proofs.Ytbfmdbeeiicabaa
open Go.RowKit L02 L13 L18 L20
end Go.Proofs.Ytbfmdbeeiicabaa
namespace Go.Proofs.Ytbfmdbeeiicabaa
open Go.RowKit L02 L13 L18 L20
/-- memory while the reference searches: seen, what is found, the stack -/
structure Fnd (w wr : World) (tv ov sv : Value) (N : Nat) (sn on st : Value) (od ord S : List Nat) : Prop where
  g1 : Bx wr w.heap.size 79 #[tv, ov, sv]
  hs : wr.ownsRow w.heap.size 4 1 sn N ((seenV N od).map .bool)
  ho : OwnI wr w.heap.size 3 on (natI ord)
  ht : OwnI wr w.heap.size 3 st (natI S)
  ne : ∀ g, st.ownBlock = some g → on.ownBlock ≠ some g
  B : Below w.heap.size w wr
section
variable {w wr w' : World} {tv ov sv sn on st v' : Value} {N x : Nat} {od ord S : List Nat}
theorem Fnd.below (e : Fnd w wr tv ov sv N sn on st od ord S) (b : Below wr.heap.size wr w') : Fnd w w' tv ov sv N sn on st od ord S :=
  ⟨e.g1.below b, own_below e.hs b, OwnI.below e.ho b, OwnI.below e.ht b, e.ne, e.B.trans (b.mono e.B.size)⟩
theorem lit_b (wr : World) (x : Nat) : Below wr.heap.size wr (wr.alloc (.cells #[.int .i64 (x : Int)] 3)) := (Below.refl _ wr).alloc (Nat.le_refl _) _
theorem ne_swap {a b : Value} (h : ∀ g, b.ownBlock = some g → a.ownBlock ≠ some g) : a.ownBlock = none ∨ a.ownBlock ≠ b.ownBlock := by
  cases hb : b.ownBlock with
  | none => cases a.ownBlock <;> simp
  | some g => exact .inr (h g hb)
theorem ne_swap' {a b : Value} (h : ∀ g, b.ownBlock = some g → a.ownBlock ≠ some g) : b.ownBlock = none ∨ b.ownBlock ≠ a.ownBlock := by
  cases hb : b.ownBlock with
  | none => exact .inl rfl
  | some g => exact .inr (fun e => h g hb e.symm)
theorem Fnd.pushO (e : Fnd w wr tv ov sv N sn on st od ord S) {n : Nat} (o : w'.ownsRow w.heap.size 3 1 v' n ((natI ord).map i64 ++ [.int .i64 (x : Int)])) (b : Below w.heap.size w w') (hg : (wr.alloc (.cells #[.int .i64 (x : Int)] 3)).grownBy w' on.ownBlock)
    (hk : ∀ g, v'.ownBlock = some g → on.ownBlock = some g ∨ (wr.alloc (.cells #[.int .i64 (x : Int)] 3)).heap.size ≤ g) : Fnd w w' tv ov sv N sn v' st od (ord ++ [x]) S := by
  have e2 := e.below (lit_b wr x)
  refine ⟨e2.g1.grown hg (own_not_bx e2.ho e2.g1 (by decide)), World.ownsRow.kept e2.hs hg (own_unlike e2.hs e2.ho (by decide)), OwnI.of o (by rw [natI_snoc, List.map_append]; rfl), World.ownsRow.kept e2.ht hg (ne_swap' e.ne), fun g hv ho => ?_, b⟩
  rcases hk g ho with h | h
  · exact e.ne g hv h
  · have := (World.ownsRow.lt e.ht g hv).2
    simp at h; omega
/-- the mark of an object -/
theorem Fnd.mark (e : Fnd w wr tv ov sv N sn on st od ord S) {n : Nat} (hn : n < N) : ∃ gs, (∀ W, (Instr.indexAt 204 sn (.int .i64 (n : Int))).run Try.prog W = .ok (.pointer (some ⟨gs, n, none⟩)) W) ∧ wr.cell? ⟨gs, n, none⟩ = some (.bool (decide (n ∈ od))) ∧ wr.frozen? ⟨gs, n, none⟩ = false ∧
    Fnd w (wr.setCell ⟨gs, n, none⟩ (.bool true)) tv ov sv N sn on st (od ++ [n]) ord S := by
  obtain ⟨gs, cap, cur, rfl, hB, hg, hnc, hcm, hcs, htake⟩ := own_form e.hs (by omega)
  have hix := fun W => Rd.ixN (Rd.of_own e.hs) Try.underlying204 one_bool hn W
  have hc := Rd.cell (Rd.of_own e.hs) (j := n) (u := .bool (decide (n ∈ od))) (by rw [List.getElem?_map, seenV_get _ hn]; rfl)
  have hst := World.ownsRow.stored e.hs n (.bool true)
  have e1 : ((seenV N od).map Value.bool).set n (.bool true) = (seenV N (od ++ [n])).map .bool := by rw [← seenV_set od hn, List.map_set]
  rw [e1] at hst
  have fg := hst.2
  refine ⟨gs, fun W => by have := hix W; simpa [cellAt] using this, by simpa [cellAt] using hc, e.hs.frozenAt n, e.g1.grown fg (own_not_bx e.hs e.g1 (by decide)), hst.1, World.ownsRow.kept e.ho fg (own_unlike e.ho e.hs (by decide)), World.ownsRow.kept e.ht fg (own_unlike e.ht e.hs (by decide)), e.ne, e.B.setCell (p := ⟨gs, n, none⟩) hB _⟩
end
end Go.Proofs.Ytbfmdbeeiicabaa
namespace Go.Proofs.Ytbfmdbeeiicabaa
open Go.RowKit L02 L13 L18 L20
end Go.Proofs.Ytbfmdbeeiicabaa
namespace Go.Proofs.Ytbfmdbeeiicabaa
open Go.RowKit L02 L13 L18 L20
/-- a number of an own row is stored -/
theorem OwnI.put {w : World} {B E : Nat} {v : Value} {l : List Int} (h : OwnI w B E v l) {k : Nat} (hk : k < l.length) : ∃ gs, v.ownBlock = some gs ∧ (∀ W, (Instr.indexAt 89 v (.int .i64 (k : Int))).run Try.prog W = .ok (.pointer (some ⟨gs, k, none⟩)) W) ∧ w.cell? ⟨gs, k, none⟩ = some (.int .i64 (l.getD k 0)) ∧ w.frozen? ⟨gs, k, none⟩ = false ∧ B ≤ gs ∧ gs < w.heap.size ∧
    ∀ x : Int, OwnI (w.setCell ⟨gs, k, none⟩ (.int .i64 x)) B E v (l.set k x) ∧ w.grownBy (w.setCell ⟨gs, k, none⟩ (.int .i64 x)) (some gs) := by
  obtain ⟨gs, cap, cur, rfl, hB, hg, hnc, hcm, hcs, htake⟩ := own_form h (by omega)
  have hix := fun W => Rd.ixN (P := Try.prog) (Rd.of_own h) Try.underlying89 one_int hk W
  have hc := Rd.cell (Rd.of_own h) (j := k) (u := .int .i64 (l.getD k 0)) (by rw [List.getElem?_map, List.getElem?_eq_getElem hk, List.getD_eq_getElem?_getD, List.getElem?_eq_getElem hk]; rfl)
  refine ⟨gs, rfl, fun W => by have := hix W; simpa [cellAt] using this, by simpa [cellAt] using hc, h.frozenAt k, hB, (World.ownsRow.lt h gs rfl).2, fun x => ?_⟩
  have hst := World.ownsRow.stored h k (.int .i64 x)
  refine ⟨?_, hst.2⟩
  refine OwnI.of hst.1 ?_
  rw [List.map_set]; rfl
end Go.Proofs.Ytbfmdbeeiicabaa
namespace Go.Proofs.Ytbfmdbeeiicabaa
open Go.RowKit L02 L13 L18 L20
/-- all blocks but numbers and finders are as they were -/
def FrT (w w' : World) : Prop := w.heap.size ≤ w'.heap.size ∧ ∀ (k : Nat) (cs : Array Value) (e : TypeId) (fr : Nat × Nat), e ≠ 3 → e ≠ 183 → w.heap[k]? = some (.cells cs e fr) → w'.heap[k]? = some (.cells cs e fr)
section
variable {w w' w'' : World}
theorem FrT.refl (w : World) : FrT w w := ⟨Nat.le_refl _, fun _ _ _ _ _ _ h => h⟩
theorem FrT.trans (h : FrT w w') (h2 : FrT w' w'') : FrT w w'' := ⟨Nat.le_trans h.1 h2.1, fun k cs e fr a b hk => h2.2 k cs e fr a b (h.2 k cs e fr a b hk)⟩
theorem FrT.of_below (h : Below w.heap.size w w') : FrT w w' := ⟨h.size, fun k cs e fr _ _ hk => (h.block k (Array.getElem?_eq_some_iff.1 hk).1).trans hk⟩
theorem Bx.frT {g : Nat} {t : TypeId} {cs : Array Value} (h : Bx w g t cs) (hf : FrT w w') (h1 : t ≠ 3) (h2 : t ≠ 183) : Bx w' g t cs := hf.2 g cs t (0, 0) h1 h2 h
theorem own_frT {B e sz n : Nat} {v : Value} {xs : List Value} (h : w.ownsRow B e sz v n xs) (hf : FrT w w') (h1 : e ≠ 3) (h2 : e ≠ 183) : w'.ownsRow B e sz v n xs := by
  refine ⟨h.1, h.2.imp id ?_⟩
  rintro ⟨g, cap, cur, a1, a2, a3, a4⟩
  exact ⟨g, cap, cur, a1, a2, hf.2 g cur e (0, 0) h1 h2 a3, a4⟩
theorem OwnM.frT {B : Nat} {tv ov sv : Value} {m : Mo} (h : OwnM w B 68 tv ov sv m) (hf : FrT w w') : OwnM w' B 68 tv ov sv m := by
  obtain ⟨⟨vs, a1, a2, a3⟩, ⟨us, b1, b2, b3, b4⟩, c⟩ := h
  exact ⟨⟨vs, a1, own_frT a2 hf (by decide) (by decide), fun i x l h1 h2 => own_frT (a3 i x l h1 h2) hf (by decide) (by decide)⟩, ⟨us, b1, own_frT b2 hf (by decide) (by decide), fun i x l h1 h2 => own_frT (b3 i x l h1 h2) hf (by decide) (by decide), b4⟩, own_frT c hf (by decide) (by decide)⟩
theorem FrT.grown {g : Nat} {cs : Array Value} {t : TypeId} (hg : w.grownBy w' (some g)) (hx : Bx w g t cs) (ht : t = 3 ∨ t = 183) : FrT w w' := by
  refine ⟨hg.size, fun k cs' e fr h1 h2 hk => (hg.block k (Array.getElem?_eq_some_iff.1 hk).1 ?_).trans hk⟩
  rintro e1
  injection e1 with e1
  subst e1
  unfold Bx at hx
  rw [hk] at hx
  injection hx with hx
  injection hx with _ hx _
  subst hx
  exact ht.elim h1 h2
theorem FrT.grownI {B n : Nat} {v : Value} {xs : List Value} (hg : w.grownBy w' v.ownBlock) (hx : w.ownsRow B 3 1 v n xs) : FrT w w' := by
  rcases hx.2 with ⟨rfl, _⟩ | ⟨g, cap, cur, rfl, _, h3, _⟩
  · exact ⟨hg.size, fun k cs' e fr h1 h2 hk => (hg.block k (Array.getElem?_eq_some_iff.1 hk).1 (by intro e; cases e)).trans hk⟩
  · exact FrT.grown (g := g) hg h3 (.inl rfl)
end
/-- memory while the program searches -/
structure Fi (b : Nat) (w : World) (pf : Nat) (tv ov sv nv rv : Value) (m : Mo) (od ord : List Nat) : Prop where
  g : Bx w pf 183 #[tv, ov, sv, nv, rv]
  hn : OwnI w b 3 nv (numsI m od)
  hr : OwnI w b 3 rv (natI ord)
  om : OwnM w b 68 tv ov sv m
  ne : ∀ g, nv.ownBlock = some g → rv.ownBlock ≠ some g
  hb : b ≤ pf
section
variable {b pf : Nat} {w w' : World} {tv ov sv nv rv : Value} {m : Mo} {od ord : List Nat}
theorem Fi.below (e : Fi b w pf tv ov sv nv rv m od ord) (h : Below w.heap.size w w') : Fi b w' pf tv ov sv nv rv m od ord :=
  ⟨e.g.below h, e.hn.below h, e.hr.below h, e.om.below h, e.ne, e.hb⟩
/-- one more is found -/
theorem Fi.push {v' : Value} {x n : Nat} (e : Fi b w pf tv ov sv nv rv m od ord) (hbw : b ≤ w.heap.size) (o : w'.ownsRow b 3 1 v' n ((natI ord).map i64 ++ [.int .i64 (x : Int)])) (hg : (w.alloc (.cells #[.int .i64 (x : Int)] 3)).grownBy w' rv.ownBlock)
    (hk : ∀ g, v'.ownBlock = some g → rv.ownBlock = some g ∨ (w.alloc (.cells #[.int .i64 (x : Int)] 3)).heap.size ≤ g) :
    Bx w' pf 183 #[tv, ov, sv, nv, rv] ∧ Fi b (w'.setCell ⟨pf, 4, none⟩ v') pf tv ov sv nv v' m od (ord ++ [x]) ∧ FrT w (w'.setCell ⟨pf, 4, none⟩ v') ∧ Below b w (w'.setCell ⟨pf, 4, none⟩ v') := by
  have lb : Below w.heap.size w (w.alloc (.cells #[.int .i64 (x : Int)] 3)) := (Below.refl _ w).alloc (Nat.le_refl _) _
  have e2 := e.below lb
  have g' := e2.g.grown hg (own_not_bx e2.hr e2.g (by decide))
  have f1 : FrT w w' := (FrT.of_below lb).trans (FrT.grownI hg e2.hr)
  have hsc := grown_set w' ⟨pf, 4, none⟩ v'
  have f2 : FrT w' (w'.setCell ⟨pf, 4, none⟩ v') := FrT.grown hsc g' (.inr rfl)
  have hrB := World.ownsRow.kept e2.hn hg (ne_swap' (a := rv) (b := nv) (fun g h1 h2 => e.ne g h1 h2))
  refine ⟨g', ⟨?_, ?_, ?_, ?_, fun g h1 h2 => ?_, e.hb⟩, f1.trans f2, ?_⟩
  · have := g'.set (i := 4) v'
    simpa using this
  · exact World.ownsRow.kept hrB hsc (own_not_bx hrB g' (by decide))
  · exact OwnI.of (World.ownsRow.kept o hsc (own_not_bx o g' (by decide))) (by rw [natI_snoc, List.map_append]; rfl)
  · exact e.om.frT (f1.trans f2)
  · rcases hk g h2 with h | h
    · exact e.ne g h1 h
    · have := (World.ownsRow.lt e.hn g h1).2
      simp at h; omega
  · exact (((Below.refl b w).alloc hbw (.cells #[.int .i64 (x : Int)] 3)).grown hg (Nat.le_trans hbw (by simp)) (fun k hk => (World.ownsRow.lt e.hr k hk).1)).setCell (p := ⟨pf, 4, none⟩) e.hb _
/-- .. and numbered -/
theorem Fi.num {n : Nat} (e : Fi b w pf tv ov sv nv rv m od (od ++ [n])) (hni : n ∉ od) (hlt : n < m.objs.length) : ∃ gs, (∀ W, (Instr.indexAt 89 nv (.int .i64 (n : Int))).run Try.prog W = .ok (.pointer (some ⟨gs, n, none⟩)) W) ∧ (w.cell? ⟨gs, n, none⟩).isSome = true ∧ w.frozen? ⟨gs, n, none⟩ = false ∧
    Fi b (w.setCell ⟨gs, n, none⟩ (.int .i64 ((od.length : Int) + 1))) pf tv ov sv nv rv m (od ++ [n]) (od ++ [n]) ∧ FrT w (w.setCell ⟨gs, n, none⟩ (.int .i64 ((od.length : Int) + 1))) ∧ b ≤ gs := by
  obtain ⟨gs, e1, ix, mc, mf, hgB, hgl, hst⟩ := e.hn.put (k := n) (by rw [numsI_len]; exact hlt)
  obtain ⟨s1, s2⟩ := hst ((od.length : Int) + 1)
  rw [numsI_step hni hlt] at s1
  have hne : rv.ownBlock = none ∨ rv.ownBlock ≠ some gs := .inr (e.ne gs e1)
  have hgf : gs ≠ pf := by
    rintro rfl
    rcases own_not_bx e.hn e.g (by decide) with h | h
    · rw [h] at e1; cases e1
    · exact h e1
  have fr : FrT w (w.setCell ⟨gs, n, none⟩ (.int .i64 ((od.length : Int) + 1))) := FrT.grownI (v := nv) (by rw [e1]; exact s2) e.hn
  exact ⟨gs, ix, by rw [mc]; rfl, mf, ⟨e.g.far (p := ⟨gs, n, none⟩) hgf.symm _, s1, World.ownsRow.kept e.hr s2 hne, e.om.frT fr, e.ne, e.hb⟩, fr, hgB⟩
end
end Go.Proofs.Ytbfmdbeeiicabaa
namespace Go.Proofs.Ytbfmdbeeiicabaa
open Go.RowKit L02 L13 L18 L20
/-- where an own object lies, its fields of the call's own -/
theorem OwnO.atW {w : World} {base : Nat} {v : Value} {L : List Ob} (h : OwnO w base v L) {n : Nat} {o : Ob} (ho : L[n]? = some o) :
    ∃ b q x, (∀ W, (Instr.indexAt 77 v (.int .i64 (n : Int))).run Try.prog W = .ok (.pointer (some ⟨b, q, none⟩)) W) ∧ w.cell? ⟨b, q, none⟩ = some (.int .i64 o.ty) ∧ w.cell? ⟨b, q + 1, none⟩ = some x ∧ OwnW w base 34 x o.fs := by
  obtain ⟨vs, h1, h2, h4, h5⟩ := h
  have hk : n < L.length := (List.getElem?_eq_some_iff.1 ho).1
  have hv : vs[n]? = some vs[n] := List.getElem?_eq_getElem (by omega)
  have hix := fun W => Rd.ixN (P := Try.prog) (Rd.of_own h2) Try.underlying77 size_obj hk W
  obtain ⟨b, q, c, rfl, hb, hc, hcell⟩ := Rd.form (Rd.of_own h2) (by omega)
  obtain ⟨c0, c1⟩ := obC_get ho hv
  exact ⟨b, q + n * 2, vs[n], fun W => hix W, hcell _ _ c0, hcell _ _ c1, h4 n _ _ hv ho⟩
set_option maxRecDepth 100000 in
set_option maxHeartbeats 16000000 in
theorem visit_any (m : Mo) (hc : chk m = 0) (b pf : Nat) (tv ov sv nv : Value) : ∀ (d : Nat) (ord : List Nat) (n : Nat) (rv : Value) (w : World) (out : List Nat), m.objs.length - ord.length = d → n < m.objs.length → ord.Nodup → (∀ x ∈ ord, x < m.objs.length) → Rs m ord [n] out →
    Fi b w pf tv ov sv nv rv m ord ord → b ≤ w.heap.size → Calls Try.prog 123 #[.pointer (some ⟨pf, 0, none⟩), .int .i64 n] w fun e w' => e = .returned (.tuple #[]) ∧ ∃ rv', Fi b w' pf tv ov sv nv rv' m out out ∧ FrT w w' ∧ Below b w w' := by
  obtain ⟨N, hN⟩ : ∃ N, N = m.objs.length := ⟨_, rfl⟩
  obtain ⟨k1, k2, k3⟩ := chk_ok hc
  have hN1 : N ≤ 960 := by rw [hN]; exact k2
  have HN := Lib.hid hN; have HC := Lib.hid hc; have HK := Lib.hid k3
  intro d
  induction d using Nat.strongRecOn with
  | ind d ih =>
  intro ord n rv w out hd hn hnd hol hrs hfi hbw
  have IH := Lib.hid ih
  clear ih hN k1 k2 k3 hc
  have c_g := hfi.g.cell
  obtain ⟨na, x, ia, mx, hx⟩ := (OwnI.rd hfi.hn).at_ (P := Try.prog) Try.underlying89 one_int (k := n) (by rw [numsI_len]; exact hn)
  have hxx := hx.out
  rw [numsI_get hn] at hxx
  by_cases hin : n ∈ ord
  · rw [if_pos hin] at hxx
    injection hxx with hxx
    subst hxx
    have hout : out = ord := by
      cases hrs with
      | seen _ h => cases h; rfl
      | new h _ => exact absurd hin h
    obtain ⟨id, hid⟩ : ∃ q, q = ord.idxOf n := ⟨_, rfl⟩
    rw [← hid] at mx
    have z1 : (0 : Int) < (id : Int) + 1 := by omega
    have HF := Lib.hid hfi
    clear hfi hx hid hin hrs IH
    go_enter Try.func123, Try.ntmps123
    go_wp2
    refine bodyPost_ret (results_none rfl _ _ _) rfl ?_
    refine ⟨rfl, rv, ?_, FrT.refl _, Below.refl _ _⟩
    rw [hout]; exact HF.out
  · rw [if_neg hin] at hxx
    injection hxx with hxx
    subst hxx
    have hrs2 : Rs m (ord ++ [n]) (kids m n) out := by
      cases hrs with
      | seen h _ => exact absurd h hin
      | new _ h => rw [List.append_nil] at h; exact h
    have hnd2 : (ord ++ [n]).Nodup := List.nodup_append.2 ⟨hnd, by simp, fun x hx y hy e => hin (by rw [← List.mem_singleton.1 hy, ← e]; exact hx)⟩
    have hol2 : ∀ x ∈ ord ++ [n], x < m.objs.length := fun x hx => by
      rcases List.mem_append.1 hx with h | h
      · exact hol x h
      · rw [List.mem_singleton.1 h]; exact hn
    have hlen := nodup_lt hnd2 hol2
    rw [List.length_append, List.length_singleton] at hlen
    obtain ⟨L, hL⟩ : ∃ L, L = ord.length := ⟨_, rfl⟩
    have HL := Lib.hid hL
    have hL1 : L + 1 ≤ N := by rw [HN.out, hL]; exact hlen
    have hNL : (natI ord).length = L := by rw [natI_len, hL]
    have HNL := Lib.hid hNL
    obtain ⟨o, ho⟩ : ∃ o, m.objs[n]? = some o := ⟨_, List.getElem?_eq_getElem hn⟩
    have hoo := HK.out.2.2.1 o (List.mem_of_getElem? ho)
    obtain ⟨q, hq⟩ := Int.eq_ofNat_of_zero_le hoo.1.1
    have hqt : q < m.types.length := by have := hoo.1.2; omega
    obtain ⟨t, ht⟩ : ∃ t, m.types[q]? = some t := ⟨_, List.getElem?_eq_getElem hqt⟩
    have htt : ty m.types o = t := by rw [ty, hq]; simp [List.getD_eq_getElem?_getD, ht]
    obtain ⟨nf, hnf⟩ : ∃ N, N = o.fs.length := ⟨_, rfl⟩
    have hlt2 : nf = t.length := by rw [hnf, hoo.2.1, htt]
    have hnf20 : nf ≤ 20 := by rw [hnf]; exact (small_chk HC.out).2.2.2.2 o (List.mem_of_getElem? ho)
    have HOB := Lib.hid (show ob m n = o from ob_at ho)
    have HRS := Lib.hid (show Rs m (ord ++ [n]) (kidsTo m o o.fs.length) out by rw [← HOB.out]; exact hrs2)
    have HO := Lib.hid hoo; have HOI := Lib.hid ho; have HTT := Lib.hid htt; have HNF := Lib.hid hnf; have HLT := Lib.hid hlt2; have HQ := Lib.hid hq; have HT := Lib.hid ht
    have HIN := Lib.hid hin; have HND := Lib.hid (And.intro hnd2 hol2); have HNN := Lib.hid hn; have HD := Lib.hid hd
    have HF := Lib.hid hfi
    clear hoo ho htt hnf hlt2 hq ht hqt hfi hx hin hrs hrs2 hnd hol hnd2 hol2 hlen hL hNL hn hd
    go_enter Try.func123, Try.ntmps123
    go_upto_region 1 with (fail)
    clear mx ia
    go_wp2_with (at_builtin; refine wpList_append2 (by rfl) rfl rfl rfl Try.underlying89 info_int rfl (by omega) (by exact own_below HF.out.hr (lit_b w n)) (by exact lit_rd) (by simp [Value.oneCell']) (by omega) (by rw [HNL.out]; omega) (by rw [HNL.out]; omega) (by exact (Below.refl b w).alloc hbw _) hbw ?_; intro v1 w1 o1 b1 g1 n1; obtain ⟨vA, vn1, vc, rfl⟩ : ∃ A n c, v1 = .slice A n c := by { obtain ⟨A, c, e⟩ := own_form' o1; exact ⟨A, _, c, e⟩ }; have FP := Lib.hid (HF.out.push hbw o1 g1 n1); clear o1 b1 g1 n1; have c_g1 := FP.out.1.cell; have f_g1 := FP.out.1.free; clear c_g)
    refine wp_gen (fun Wv => Fi b Wv pf tv ov sv nv (.slice vA vn1 vc) m ord (ord ++ [n]) ∧ FrT w Wv ∧ Below b w Wv) FP.out.2 ?_
    clear FP c_g1 f_g1
    rintro w2 ⟨f2, t2, b2⟩
    have f2d := f2.below ((Below.refl _ w2).drew)
    obtain ⟨gs, ix, mc, mf, f3, t3, hgB⟩ := f2d.num HIN.out HNN.out
    obtain ⟨u0, hu0⟩ := Option.isSome_iff_exists.1 mc
    have ln := Rd.len (OwnI.rd f2.hr) Try.underlying89
    rw [show (natI (ord ++ [n])).length = L + 1 by rw [natI_len, List.length_append, ← HL.out]; rfl] at ln
    have c2 := f2.g.cell
    have FX := Lib.hid (And.intro f3 (And.intro (t2.trans ((FrT.of_below ((Below.refl _ w2).drew)).trans t3)) ((b2.drew).setCell (p := ⟨gs, n, none⟩) hgB (.int .i64 ((ord.length : Int) + 1)))))
    rw [← HL.out] at FX
    clear f2 f2d f3 t2 t3 b2 mc hgB w1 HF
    refine wp_region_qtail 11 (by kernel_rfl) (by kernel_rfl) ?_
    simp only [List.take_succ_cons, List.take_zero, List.drop_succ_cons, List.drop_zero]
    iterate 11 (go_big_quiet_step (fail))
    refine wpQuiet_nil ?_
    clear c2 ln ix
    go_upto_region 3 with (fail)
    refine wp_gen (fun Wv => Fi b Wv pf tv ov sv nv (.slice vA vn1 vc) m (ord ++ [n]) (ord ++ [n]) ∧ FrT w Wv ∧ Below b w Wv) ?_ ?_
    · exact FX.out
    clear FX hu0 mf w2
    rintro w3 ⟨f3, t3, b3⟩
    obtain ⟨bo, bq, x0, ixo, p0, p1, ow⟩ := f3.om.o.atW HOI.out
    obtain ⟨xA, xn, xc, rfl⟩ : ∃ A n c, x0 = .slice A n c := by obtain ⟨A, c, e⟩ := own_form' ow; exact ⟨A, _, c, e⟩
    rw [HQ.out] at p0
    have c_g := f3.g.cell
    have hp3 := f3.g.lt
    have hbw3 : b ≤ w3.heap.size := Nat.le_trans hbw t3.1
    go_upto_region 4 with (fail)
    have bz := (Below.refl w3.heap.size w3).alloc (Nat.le_refl _) (.cells #[.int .i64 (q : Int), .slice xA xn xc] 136)
    refine wp_gen (fun Wv => Fi b Wv pf tv ov sv nv (.slice vA vn1 vc) m (ord ++ [n]) (ord ++ [n]) ∧ FrT w Wv ∧ Below b w Wv ∧ Bx Wv w3.heap.size 136 #[.int .i64 q, .slice xA xn xc] ∧ OwnW Wv b 34 (.slice xA xn xc) o.fs ∧ w3.heap.size < Wv.heap.size) ⟨f3.below bz, t3.trans (FrT.of_below bz), b3.trans (bz.mono hbw3), Bx.new w3 _ _, own_below ow bz, by simp⟩ ?_
    clear f3 t3 b3 ow p0 p1 ixo c_g bz
    generalize w3.heap.size = p4 at *
    clear w3
    rintro w4 ⟨f4, t4, b4, g4, ow, hz4⟩
    obtain ⟨ad, yt, iy, m3, oy⟩ := f4.om.t.atB HT.out
    have c_g := f4.g.cell
    have c_4 := g4.cell
    have ly := Rd.len (OwnB.rd oy) Try.underlying44
    rw [← HLT.out] at ly
    have F4 := Lib.hid (And.intro f4 (And.intro t4 (And.intro b4 (And.intro g4 (And.intro ow (And.intro oy hz4))))))
    clear f4 t4 b4 g4 ow oy
    go_big_quiet (fail)
    clear c_g c_4 m3 iy
    have bq := (Below.refl w4.heap.size w4).drew
    have F5 := Lib.hid (show Fi b (w4.drewN nq) pf tv ov sv nv (.slice vA vn1 vc) m (ord ++ [n]) (ord ++ [n]) ∧ FrT w (w4.drewN nq) ∧ Below b w (w4.drewN nq) ∧ Bx (w4.drewN nq) p4 136 #[.int .i64 q, .slice xA xn xc] ∧ OwnW (w4.drewN nq) b 34 (.slice xA xn xc) o.fs ∧ OwnB (w4.drewN nq) b 5 yt t ∧ p4 < (w4.drewN nq).heap.size from by
      obtain ⟨f4, t4, b4, g4, ow, oy, hz⟩ := F4.out
      have bz := below_drewN (Below.refl w4.heap.size w4) nq
      exact ⟨f4.below bz, t4.trans (FrT.of_below bz), b4.trans (bz.mono (Nat.le_trans hbw t4.1)), g4, ow, oy, hz⟩)
    have HBW := Lib.hid hbw
    clear F4 bq
    go_wp2
    go_loopg [54] nf (fun gg i wr => ∃ k : Nat, k ≤ nf ∧ gg = nf - k ∧ i = .int .i64 k ∧ Hid (∃ mid rv', Rs m (ord ++ [n]) (kidsTo m o k) mid ∧ Fi b wr pf tv ov sv nv rv' m mid mid ∧ FrT w wr ∧ Below b w wr ∧ Bx wr p4 136 #[.int .i64 q, .slice xA xn xc] ∧ OwnW wr b 34 (.slice xA xn xc) o.fs ∧ OwnB wr b 5 yt t ∧ p4 < wr.heap.size))
    case atStart => exact ⟨0, by omega, by omega, rfl, Lib.hid ⟨_, _, .nil _, F5.out⟩⟩
    case round =>
      clear F5
      obtain ⟨k, hk, rfl, rfl, hh⟩ := hrel
      obtain ⟨mid, rv', hmid, f, tt, bb, g4, ow, oy, hz⟩ := hh.out
      by_cases hlt : k < nf
      · have c_4 := g4.cell
        obtain ⟨bd, kk, ib, m4, hkk⟩ := ((OwnB.rd oy).at_ (P := Try.prog) Try.underlying44 one_u8 (k := k) (by have := HLT.out; omega))
        obtain ⟨cd, v, ic, m5, hv⟩ := ((OwnW.rd ow).at_ (P := Try.prog) Try.underlying22 one_u64 (k := k) (by have := HNF.out; omega))
        have hkd : (ty m.types o).getD k 0 = kk := by rw [HTT.out]; simp [List.getD_eq_getElem?_getD, hkk.out]
        have hvd : o.fs.getD k 0 = v := by simp [List.getD_eq_getElem?_getD, hv.out]
        have hkid : kidAt m o k = if kk.toNat = 3 ∧ 0 < v.toNat then some (v.toNat - 1) else none := by rw [kidAt, hkd, hvd]
        have hvl : kk.toNat = 3 → v.toNat ≤ N := fun h => by
          have := HO.out.2.2 k (by have := HNF.out; omega)
          rw [hkd, hvd] at this
          have := this.2 h
          rw [HN.out]; exact this
        obtain ⟨vn, hvn⟩ : ∃ q, q = v.toNat := ⟨_, rfl⟩
        rw [← hvn] at m5 hkid hvl
        clear hkk hv hkd hvd hvn
        by_cases h3 : kk.toNat = 3
        · have k3 : ((kk.toNat : Int) == 3) = true := by rw [beq_iff_eq]; omega
          by_cases h0 : 0 < vn
          · rw [if_pos ⟨h3, h0⟩] at hkid
            obtain ⟨c, rfl⟩ : ∃ c, vn = c + 1 := ⟨vn - 1, by omega⟩
            rw [Nat.add_sub_cancel] at hkid
            have hcl : c < N := by have := hvl h3; omega
            have m5' : wr.cell? cd = some (.int .u64 ((c : Int) + 1)) := by rw [m5]; rfl
            have z1 : ((c : Int) + 1 != 0) = true := by rw [bne_iff_ne]; omega
            have z2 : IntKind.u64.wrap (c : Int) = (c : Int) := by show (c : Int) % 18446744073709551616 = _; omega
            have z3 : IntKind.i64.wrap (c : Int) = (c : Int) := IntWalk.i64_in _ (by omega)
            obtain ⟨mid2, r1, r2⟩ := HRS.out.kid (by have := HNF.out; omega) hmid hkid
            have hpre := hmid.pre.length_le
            rw [List.length_append, List.length_singleton] at hpre
            have hND2 := hmid.nodup HND.out.1
            have hol3 := hmid.all (p := fun x => x < m.objs.length) (kids_lt HC.out) HND.out.2 (fun x hx => by
              rw [kidsTo, List.mem_filterMap] at hx
              obtain ⟨i, hi, hx⟩ := hx
              have hi := List.mem_range.1 hi
              have h1 := kidAt_some hx
              have := (HO.out.2.2 i (by have := HNF.out; omega)).2 h1.1
              omega)
            have hln : (ord ++ [n]).length ≤ m.objs.length := nodup_lt HND.out.1 HND.out.2
            rw [List.length_append, List.length_singleton] at hln
            have CL := Lib.hid (IH.out (m.objs.length - mid.length) (by rw [← HD.out]; omega) mid c rv' wr mid2 rfl (by rw [← HN.out]; exact hcl) hND2 hol3 r1 f (Nat.le_trans HBW.out tt.1))
            have HR2 := Lib.hid r2
            have HG := Lib.hid (And.intro tt (And.intro bb (And.intro g4 (And.intro ow (And.intro oy hz)))))
            clear hh hmid f tt bb g4 ow oy hz hkid m5 hvl h3 h0 r1 r2 hpre hND2 hol3 hln
            go_wp2_with fail
            refine CL.out.mono ?_
            rintro e wf ⟨rfl, rv2, f, t2, b2⟩
            obtain ⟨tt, bb, g4, ow, oy, hz⟩ := HG.out
            have HJ := Lib.hid (And.intro HR2.out (And.intro f (And.intro (tt.trans t2) (And.intro (bb.trans b2) (And.intro (g4.frT t2 (by decide) (by decide)) (And.intro (own_frT ow t2 (by decide) (by decide)) (And.intro (own_frT oy t2 (by decide) (by decide)) (Nat.lt_of_lt_of_le hz t2.1))))))))
            clear f t2 b2 tt bb g4 ow oy hz HG CL HR2
            go_wp2
            go_roundg (nf - (k + 1))
            case measure => omega
            case rel => exact ⟨k + 1, by omega, rfl, by go_num, Lib.hid ⟨_, _, HJ.out⟩⟩
          · obtain rfl : vn = 0 := by omega
            rw [if_neg (by omega)] at hkid
            have m5' : wr.cell? cd = some (.int .u64 0) := by rw [m5]; rfl
            have HJ := Lib.hid (show Rs m (ord ++ [n]) (kidsTo m o (k + 1)) mid by rw [kidsTo_step, hkid, List.append_nil]; exact hmid)
            have HG := Lib.hid (And.intro f (And.intro tt (And.intro bb (And.intro g4 (And.intro ow (And.intro oy hz))))))
            clear hh hmid f tt bb g4 ow oy hz hkid m5 hvl h0
            go_wp2
            go_roundg (nf - (k + 1))
            case measure => omega
            case rel => exact ⟨k + 1, by omega, rfl, by go_num, Lib.hid ⟨_, _, HJ.out, HG.out⟩⟩
        · have k3 : ((kk.toNat : Int) == 3) = false := by rw [beq_eq_false_iff_ne]; omega
          rw [if_neg (fun h => h3 h.1)] at hkid
          have HJ := Lib.hid (show Rs m (ord ++ [n]) (kidsTo m o (k + 1)) mid by rw [kidsTo_step, hkid, List.append_nil]; exact hmid)
          have HG := Lib.hid (And.intro f (And.intro tt (And.intro bb (And.intro g4 (And.intro ow (And.intro oy hz))))))
          clear hh hmid f tt bb g4 ow oy hz hkid hvl h3
          go_wp2
          go_roundg (nf - (k + 1))
          case measure => omega
          case rel => exact ⟨k + 1, by omega, rfl, by go_num, Lib.hid ⟨_, _, HJ.out, HG.out⟩⟩
      · obtain rfl : k = nf := by omega
        have hfin : mid = out := by
          have := HRS.out
          rw [← HNF.out] at this
          exact hmid.det this
        subst hfin
        have HJ := Lib.hid (And.intro f (And.intro tt bb))
        clear hh hmid f tt bb g4 ow oy hz
        go_wp2
        refine bodyPost_end (results_none rfl _ _ _) rfl ?_
        exact ⟨rfl, rv', HJ.out⟩
end Go.Proofs.Ytbfmdbeeiicabaa
namespace Go.Proofs.Ytbfmdbeeiicabaa
open Go.RowKit L02 L13 L18 L20
def rootsTo (m : Mo) (j : Nat) : List Nat := (m.slots.take j).filterMap rootOf
theorem rootsTo_step {m : Mo} {j : Nat} {s : Sl} (hs : m.slots[j]? = some s) : rootsTo m (j + 1) = rootsTo m j ++ (match rootOf s with | none => [] | some c => [c]) := by
  rw [rootsTo, List.take_add_one, hs, List.filterMap_append]
  congr 1
  cases h : rootOf s <;> simp [h]
theorem rootsTo_end {m : Mo} {j : Nat} (h : m.slots.length ≤ j) : rootsTo m j = roots m := by rw [rootsTo, List.take_of_length_le h]; rfl
theorem roots_split (m : Mo) (j : Nat) : roots m = rootsTo m j ++ rootsFrom m j := by
  rw [rootsTo, rootsFrom, ← List.filterMap_append, List.take_append_drop]; rfl
set_option maxRecDepth 100000 in
set_option maxHeartbeats 8000000 in
theorem roots_any (m : Mo) (hc : chk m = 0) (b pf : Nat) (tv ov sv nv rv : Value) (out : List Nat) (hr : Rs m [] (roots m) out) (w : World) (hfi : Fi b w pf tv ov sv nv rv m [] []) (hbw : b ≤ w.heap.size) :
    Calls Try.prog 122 #[.agg #[tv, ov, sv], .func (.func 123) #[.pointer (some ⟨pf, 0, none⟩)] #[]] w fun e w' => e = .returned (.tuple #[]) ∧ ∃ rv', Fi b w' pf tv ov sv nv rv' m out out ∧ FrT w w' ∧ Below b w w' := by
  obtain ⟨k1, k2, k3⟩ := chk_ok hc
  have HC := Lib.hid hc; have HK := Lib.hid k3; have HR := Lib.hid hr
  obtain ⟨⟨tA, tn, tc, rfl⟩, ⟨oA, on, oc, rfl⟩, ⟨sA, sn, sc, rfl⟩⟩ := hfi.om.forms
  obtain ⟨gS, sc', hS1⟩ : ∃ g c, Value.slice sA sn sc = .slice (some ⟨g, 0, none⟩) 16 c := by obtain ⟨g, n, c, e, e2⟩ := hfi.om.s.form (by have := k3.1; omega); rw [e2, k3.1] at e; exact ⟨g, c, e⟩
  cases hS1
  clear hc k1 k2 k3 hr
  go_enter Try.func122, Try.ntmps122
  go_upto_region 1 with (fail)
  have bz := (Below.refl w.heap.size w).alloc (Nat.le_refl _) (.cells #[.slice tA tn tc, .slice oA on oc, .slice (some ⟨gS, 0, none⟩) 16 sc] 79)
  refine wp_gen (fun Wv => Bx Wv w.heap.size 79 #[.slice tA tn tc, .slice oA on oc, .slice (some ⟨gS, 0, none⟩) 16 sc] ∧ Fi b Wv pf (.slice tA tn tc) (.slice oA on oc) (.slice (some ⟨gS, 0, none⟩) 16 sc) nv rv m [] [] ∧ FrT w Wv ∧ Below b w Wv) ⟨Bx.at_ (by simp), hfi.below bz, FrT.of_below bz, bz.mono hbw⟩ ?_
  clear bz hfi
  rintro wa ⟨g1, f0, t0, b0⟩
  have c_g1 := g1.cell
  have H0 := Lib.hid (And.intro f0 (And.intro t0 b0))
  clear g1 f0 t0 b0
  go_wp2
  clear c_g1
  go_loopg [9] 16 (fun gg i wr => ∃ j : Nat, j ≤ 16 ∧ gg = 16 - j ∧ i = .int .i64 j ∧ Hid (∃ mid rv', Rs m [] (rootsTo m j) mid ∧ Fi b wr pf (.slice tA tn tc) (.slice oA on oc) (.slice (some ⟨gS, 0, none⟩) 16 sc) nv rv' m mid mid ∧ FrT w wr ∧ Below b w wr))
  case atStart => exact ⟨0, by omega, by omega, rfl, Lib.hid ⟨_, _, .nil _, H0.out⟩⟩
  case round =>
    clear H0
    obtain ⟨j, hj, rfl, rfl, hh⟩ := hrel
    obtain ⟨mid, rv', hmid, f, tt, bb⟩ := hh.out
    by_cases hlt : j < 16
    · obtain ⟨s, hs⟩ : ∃ s, m.slots[j]? = some s := ⟨_, List.getElem?_eq_getElem (by rw [HK.out.1]; exact hlt)⟩
      obtain ⟨ix, q0, q1, q2⟩ := OwnS.cells f.om.s hs
      have hso := HK.out.2.2.2 s (List.mem_of_getElem? hs)
      have hst := rootsTo_step hs
      have hsf := rootsFrom_step hs
      have hbr : b ≤ wr.heap.size := Nat.le_trans hbw tt.1
      have bz := (Below.refl wr.heap.size wr).alloc (Nat.le_refl _) (.cells #[.int .i64 s.gen, .bool s.used, .int .i64 s.at_] 68)
      have HX := Lib.hid (And.intro (f.below bz) (And.intro (tt.trans (FrT.of_below bz)) (bb.trans (bz.mono hbr))))
      have HM := Lib.hid hmid
      clear hh f tt bb hmid bz hs
      go_upto_region 4 with (fail)
      refine wp_gen (fun Wv => Bx Wv wr.heap.size 68 #[.int .i64 s.gen, .bool s.used, .int .i64 s.at_] ∧ Fi b Wv pf (.slice tA tn tc) (.slice oA on oc) (.slice (some ⟨gS, 0, none⟩) 16 sc) nv rv' m mid mid ∧ FrT w Wv ∧ Below b w Wv) ⟨Bx.new wr _ _, HX.out⟩ ?_
      clear HX ix q0 q1 q2 hbr
      rintro w3 ⟨g5, f, tt, bb⟩
      have c5 := g5.cell
      cases hu : s.used
      · rw [hu] at c5
        rw [show rootOf s = none by rw [rootOf, hu]; rfl] at hst
        have HJ := Lib.hid (show Rs m [] (rootsTo m (j + 1)) mid by rw [hst, List.append_nil]; exact HM.out)
        have HG := Lib.hid (And.intro f (And.intro tt bb))
        clear hst hsf hso HM g5 f tt bb
        go_wp2
        go_roundg (16 - (j + 1))
        case measure => omega
        case rel => exact ⟨j + 1, by omega, rfl, by go_num, Lib.hid ⟨_, _, HJ.out, HG.out⟩⟩
      · rw [hu] at c5
        obtain ⟨a1, a2, a3⟩ := hso.2.2 hu
        obtain ⟨x, hx⟩ := Int.eq_ofNat_of_zero_le a2
        rw [hx] at c5
        rw [show rootOf s = some x by rw [rootOf, hu, hx]; rfl] at hst hsf
        have hxl : x < m.objs.length := by omega
        have hall : Rs m [] (rootsTo m j ++ ([x] ++ rootsFrom m (j + 1))) out := by rw [← hsf, ← roots_split]; exact HR.out
        obtain ⟨mid', e1, e2⟩ := hall.app rfl
        obtain rfl := e1.det HM.out
        obtain ⟨mid2, e3, e4⟩ := e2.app rfl
        have hnd := e1.nodup List.nodup_nil
        have hol := e1.all (p := fun x => x < m.objs.length) (kids_lt HC.out) (by simp) (fun n hn => roots_lt HC.out n (by rw [roots_split m j]; exact List.mem_append_left _ hn))
        have CL := Lib.hid (visit_any m HC.out b pf _ _ _ nv _ mid' x rv' w3 mid2 rfl hxl hnd hol e3 f (Nat.le_trans hbw tt.1))
        have HJ := Lib.hid (show Rs m [] (rootsTo m (j + 1)) mid2 by rw [hst]; exact e1.join e3)
        have HT := Lib.hid (And.intro tt bb)
        clear hst hsf hso HM g5 f tt bb a1 a2 a3 hx hall e1 e2 e3 e4 hnd hol
        go_wp2_with fail
        refine CL.out.mono ?_
        rintro e wf ⟨rfl, rv2, f, t2, b2⟩
        have HG := Lib.hid (And.intro f (And.intro (HT.out.1.trans t2) (HT.out.2.trans b2)))
        clear f t2 b2 HT CL c5
        go_wp2
        go_roundg (16 - (j + 1))
        case measure => omega
        case rel => exact ⟨j + 1, by omega, rfl, by go_num, Lib.hid ⟨_, _, HJ.out, HG.out⟩⟩
    · obtain rfl : j = 16 := by omega
      rw [rootsTo_end (by rw [HK.out.1]; exact Nat.le_refl _)] at hmid
      obtain rfl := hmid.det HR.out
      have HG := Lib.hid (And.intro f (And.intro tt bb))
      clear hh f tt bb hmid
      go_wp2
      refine bodyPost_end (results_none rfl _ _ _) rfl ?_
      exact ⟨rfl, rv', HG.out⟩
end Go.Proofs.Ytbfmdbeeiicabaa
namespace Go.Proofs.Ytbfmdbeeiicabaa
open Go Go.RowKit
section
variable {P : Program} {ops : Array Oper} {md : Region.Mode} {C : Array Bool → World → Prop} {nn : Nat → Bool} {x : Nat → Value} {T : Nat → Sem Next → Prop}
def wpAnyH (P : Program) (md : Region.Mode) (ops : Array Oper) (C : Array Bool → World → Prop) (nn : Nat → Bool) (x : Nat → Value) (T : Nat → Sem Next → Prop) (n : Nat) (L : Array Bool → Act → Prop) : Nat → Array Bool → Act → Prop
  | 0, listed, a => L listed a
  | f + 1, listed, a =>
    Region.ready md ops listed ≠ [] ∧ ∀ i ∈ Region.ready md ops listed, i < n ∧ qOpM P md ops C nn x T i (wpAnyH P md ops C nn x T n L f (listed.setIfInBounds i true)) a
theorem wpAnyH_first {n i : Nat} {oi : Oper} {v : Value} {L : Array Bool → Act → Prop} (hi : ops[i]? = some oi) (hsel : ∀ (j : Nat) (o : Oper) cs b, ops[j]? = some o → o.op ≠ .select cs b)
    (hs : Region.sinkB md ops n = true) (hc : Region.chainB md ops n = true) (hn : n < ops.size) (hin : i < n)
    (hdone : ∀ listed a, L listed a → ∀ j ∈ Region.ready md ops listed, n ≤ j) :
    ∀ (f : Nat) (listed : Array Bool) (a : Act), HeadInv md ops n listed →
      (∀ j oj, ops[j]? = some oj → j ≠ i → listed.getD j true = false → (∀ e ∈ oj.after, Region.binds md e = true → e.on ≠ i) → oi.apart ops oj = true) →
      i ∈ Region.ready md ops listed → YieldsM P md ops C nn x i oi v a ∧ (nn i = true → T i (execOp a.eval oi)) →
      wpAnyH P md ops C nn x T n L f (listed.setIfInBounds i true) (a.put oi.dst v) → wpAnyH P md ops C nn x T n L (f + 1) listed a := by
  intro f
  induction f with
  | zero =>
    intro listed a inv _ hr hy H
    have hun := (mem_ready.1 hr).1
    refine ⟨fun h => (by rw [h] at hr; cases hr), fun j hj => ?_⟩
    have hjn : j < n := by
      rcases Nat.lt_or_ge j n with h | h
      · exact h
      · exact absurd hj (tail_waits hs hc hn inv _ i rfl hin hun j h)
    refine ⟨hjn, ?_⟩
    by_cases hji : j = i
    · subst hji; unfold qOpM; simp only [hi]; exact ⟨v, hy, H⟩
    · have := hdone _ _ H j (ready_mono hj hji)
      omega
  | succ f ih =>
    intro listed a inv hfree hr hy H
    have hun := (mem_ready.1 hr).1
    refine ⟨fun h => (by rw [h] at hr; cases hr), fun j hj => ?_⟩
    have hjn : j < n := by
      rcases Nat.lt_or_ge j n with h | h
      · exact h
      · exact absurd hj (tail_waits hs hc hn inv _ i rfl hin hun j h)
    refine ⟨hjn, ?_⟩
    by_cases hji : j = i
    · subst hji; unfold qOpM; simp only [hi]; exact ⟨v, hy, H⟩
    · have h1 := (H.2 j (ready_mono hj hji)).2
      obtain ⟨hjun, oj, hoj, hall⟩ := mem_ready.1 hj
      have hnot : ∀ e ∈ oj.after, Region.binds md e = true → e.on ≠ i := fun e he hb heq => by
        have h1 := hall e he hb
        rw [heq, getD_both hun] at h1
        cases h1
      have h2 := qOpM_put hoj (hfree j oj hoj hji hjun hnot) (fun cs b => hsel i oi cs b hi) (fun cs b => hsel j oj cs b hoj) hy h1
      have hfree' : ∀ k ok, ops[k]? = some ok → k ≠ i → (listed.setIfInBounds j true).getD k true = false →
          (∀ e ∈ ok.after, Region.binds md e = true → e.on ≠ i) → oi.apart ops ok = true := fun k ok hk hki hun hno => by
        refine hfree k ok hk hki ?_ hno
        by_cases hjk : j = k
        · subst hjk; exact hjun
        · rw [getD_set_ne true hjk] at hun; exact hun
      refine qOpM_mono (fun a' h3 => ih (listed.setIfInBounds j true) a' (inv.set hj hjn) hfree' (ready_mono hr (Ne.symm hji)) h3.1 ?_) h2
      rw [Array.setIfInBounds_comm _ _ hji]
      exact h3.2
theorem wpAnyH_lex {n g : Nat} {Lq : Act → Prop} (hsel : Region.noSelect ops = true) (hs : Region.sinkB md ops n = true) (hc : Region.chainB md ops n = true) (hn : n < ops.size) :
    ∀ (l : List Oper) (k : Nat) (listed : Array Bool) (a : Act), (∀ j, j < l.length → l[j]? = ops[k + j]?) → k + l.length = n → HeadInv md ops n listed → (∀ j, j < k → listed.getD j false = true) →
    Region.lexHead md ops g l.length k listed = true → wpM P md ops C nn x T Lq l k a →
    wpAnyH P md ops C nn x T n (fun listed' a' => Region.seqB md ops g n listed' = true ∧ (∀ j, j < n → listed'.getD j false = true) ∧ Lq a') l.length listed a
  | [], k, listed, a, _, hk, _, hd, hB, h => by
    have : k = n := by simpa using hk
    subst this
    exact ⟨by simpa [Region.lexHead] using hB, hd, h⟩
  | o :: l, k, listed, a, hl, hk, inv, hd, hB, h => by
    have h0 : ops[k]? = some o := by simpa using (hl 0 (by simp)).symm
    simp only [List.length_cons, Region.lexHead, Bool.and_eq_true] at hB
    obtain ⟨⟨hr, hf⟩, hB'⟩ := hB
    have hkn : k < n := by simp only [List.length_cons] at hk; omega
    have hr' : k ∈ Region.ready md ops listed := by simpa using hr
    obtain ⟨v, hy, hK⟩ := h
    have hun := (mem_ready.1 hr').1
    exact wpAnyH_first h0 (Region.noSelect_spec hsel) hs hc hn hkn (fun listed' a' hL => seqB_ready hL.1) l.length listed a inv (Region.free_spec h0 hf) hr' hy
      (wpAnyH_lex hsel hs hc hn l (k + 1) _ _ (fun j hj => by have := hl (j + 1) (by simp; omega); simpa [Nat.add_assoc, Nat.add_comm 1 j] using this) (by simp only [List.length_cons] at hk; omega) (inv.set hr' hkn) (fun j hj => by
        by_cases hjk : j = k
        · subst hjk; exact (getD_on hun).2
        · rw [getD_set_ne false (Ne.symm hjk)]; exact hd j (by omega)) hB' hK)
theorem wpAny_of_H {G : Type} {val : G → Nat → Value} {V : G → Prop} {Ag : Array Bool → G → G → Prop} {Cg : G → Array Bool → World → Prop} {Tg : G → Nat → Sem Next → Prop} {Q' : Exit → Act → World → Prop} {n gt : Nat} {L : G → Array Bool → Act → Prop}
    (hL : ∀ g l a w, Cg g l w → L g l a → wpAny P md ops Q' gt l a w)
    (hrf : ∀ (l : Array Bool) g, Ag l g g) (htr : ∀ (l : Array Bool) g g' g'', Ag l g g' → Ag l g' g'' → Ag l g g'') (hmn : ∀ (l : Array Bool) i g g', Ag (l.setIfInBounds i true) g g' → l.getD i true = false → Ag l g g')
    (hvl : ∀ (l : Array Bool) i g g', nn i = true → l.getD i true = false → Ag (l.setIfInBounds i true) g g' → val g i = val g' i) (hag : ∀ (l : Array Bool) g g' w, Ag l g g' → Cg g l w → Cg g' l w)
    (hT : ∀ i s (l : Array Bool) w g, nn i = true → Tg g i s → V g → i ∈ Region.ready md ops l → Cg g l w → uponN P (fun v w' => ∃ g', V g' ∧ Ag l g g' ∧ v = val g' i ∧ Cg g' (l.setIfInBounds i true) w') (s.run P w)) :
    ∀ (fuel : Nat) (l : Array Bool) (a : Act) (w : World) (g0 : G), V g0 → Cg g0 l w →
    (∀ g, V g → Ag l g0 g → wpAnyH P md ops (Cg g) nn (val g) (Tg g) n (L g) fuel l a) → wpAny P md ops Q' (fuel + gt) l a w
  | 0, l, a, w, g0, hg0, hC, h => by rw [Nat.zero_add]; exact hL g0 l a w hC (h g0 hg0 (hrf _ _))
  | fuel + 1, l, a, w, g0, hg0, hC, h => by
    rw [show fuel + 1 + gt = (fuel + gt) + 1 by omega]
    refine ⟨fun h0 => absurd h0 (h g0 hg0 (hrf _ _)).1, fun i hi => ?_⟩
    have hun := (mem_ready.1 hi).1
    have h1 := ((h g0 hg0 (hrf _ _)).2 i hi).2
    unfold qOpM at h1
    unfold wpOp
    split
    · rename_i ho; simp only [ho] at h1
    · rename_i o ho
      simp only [ho] at h1
      obtain ⟨v, ⟨h2, hT0⟩, h3⟩ := h1
      have next : nn i = true → ∀ g', V g' → Ag l g0 g' → ∀ w', Cg g' (l.setIfInBounds i true) w' → wpAny P md ops Q' (fuel + gt) (l.setIfInBounds i true) (a.put o.dst (val g' i)) w' := by
        intro hn g' hg' hA w' hC'
        refine wpAny_of_H (n := n) hL hrf htr hmn hvl hag hT fuel _ _ w' g' hg' hC' fun g hg hA2 => ?_
        have h4 := ((h g hg (htr _ _ _ _ hA (hmn _ _ _ _ hA2 hun))).2 i hi).2
        unfold qOpM at h4
        simp only [ho] at h4
        obtain ⟨v', ⟨h5, _⟩, h6⟩ := h4
        rcases h5 with ⟨_, e5, _⟩ | ⟨hne, _⟩
        · rw [hvl _ _ _ _ hn hun hA2, ← e5]; exact h6
        · rw [hn] at hne; cases hne
      rcases h2 with ⟨hn, hv, hw⟩ | ⟨hn, h2⟩
      · rw [if_pos hw]
        left
        have h5 := hT i _ l w g0 hn (hT0 hn) hg0 hi hC
        unfold Oper.wp
        generalize (execOp a.eval o).run P w = r at *
        cases r with
        | ok n w' =>
          cases n <;> simp only [uponN] at h5 <;> simp only [Oper.upon]
          case value u => obtain ⟨g', e1, e2, rfl, e4⟩ := h5; exact next hn g' e1 e2 _ e4
          case enter f args =>
            refine h5.mono fun e w'' ⟨u, he, g', e1, e2, e3, e4⟩ => ?_
            subst he; subst e3
            exact next hn g' e1 e2 _ e4
        | halt y w' => simp only [uponN] at h5
      · have hval : ∀ g, V g → Ag (l.setIfInBounds i true) g0 g → wpAnyH P md ops (Cg g) nn (val g) (Tg g) n (L g) fuel (l.setIfInBounds i true) (a.put o.dst v) := by
          intro g hg hA2
          have hA := hmn _ _ _ _ hA2 hun
          have h4 := ((h g hg hA).2 i hi).2
          unfold qOpM at h4
          simp only [ho] at h4
          obtain ⟨v', ⟨h5, _⟩, h6⟩ := h4
          rcases h5 with ⟨e, _⟩ | ⟨_, h5⟩
          · rw [hn] at e; cases e
          · have hvv : v = v' := by
              rcases h2 with ⟨hw, ha⟩ | ⟨hw, rfl, _⟩
              · rcases h5 with ⟨_, hb⟩ | ⟨hw', _⟩
                · exact uponV_val (ha l w hi hC) (hb l w hi (hag _ _ _ _ hA hC))
                · rw [hw] at hw'; cases hw'
              · rcases h5 with ⟨hw', _⟩ | ⟨_, e, _⟩
                · rw [hw] at hw'; cases hw'
                · exact e.symm
            rw [hvv]; exact h6
        rcases h2 with ⟨hw, ha⟩ | ⟨hw, rfl, hv⟩
        · rw [if_pos hw]
          left
          have h5 := ha l w hi hC
          unfold Oper.wp
          generalize (execOp a.eval o).run P w = r at *
          cases r with
          | ok n w' =>
            cases n <;> simp only [uponV] at h5 <;> simp only [Oper.upon]
            case value u => obtain ⟨e1, e2⟩ := h5; rw [e1]; exact wpAny_of_H (n := n) hL hrf htr hmn hvl hag hT fuel _ _ w' g0 hg0 e2 hval
            case skip => obtain ⟨e1, e2⟩ := h5; rw [← e1]; exact wpAny_of_H (n := n) hL hrf htr hmn hvl hag hT fuel _ _ w' g0 hg0 e2 hval
          | halt y w' => simp only [uponV] at h5
        · rw [if_neg (by rw [hw]; exact Bool.false_ne_true)]
          exact wpAny_of_H (n := n) hL hrf htr hmn hvl hag hT fuel _ _ w g0 hg0 (hv l w hi hC) hval
end
/-- a world behind w, of which p holds besides -/
structure FutP (w : World) (p : World → Prop) where
  W : World
  h : Below w.heap.size w W
  hp : p W
/-- what holds at the head: no old block is changed; of the operations ns that are done, what is known of their values -/
def CH (w : World) (ns : List Nat) (dep : Nat → List Nat) (Φ : Nat → (Nat → Value) → World → Prop) (g : Nat → Value) : Array Bool → World → Prop := fun listed W =>
  Below w.heap.size w W ∧ ∀ k ∈ ns, listed.getD k false = true → Φ k g W ∧ ∀ j ∈ dep k, listed.getD j false = true
section
variable {P : Program} {ops : Array Oper} {rest : List Oper} {o : Oper} {a : Act} {Q : Act → Prop} {k : Nat} {md : Region.Mode} {T : Nat → Sem Next → Prop} {w : World} {ns : List Nat} {dep : Nat → List Nat} {Φ : Nat → (Nat → Value) → World → Prop} {g : Nat → Value}
theorem wpH_nil {C : Array Bool → World → Prop} {nn : Nat → Bool} {x : Nat → Value} (h : Q a) : wpM P md ops C nn x T Q [] k a := h
/-- an operation that only reads what was there before -/
theorem wpH_read0 (hV : isV o.op = true) (hn : (ns.contains k) = false)
    (h : wpQuiet P ops (fun W => ∃ x : Fut w, W = x.W) (fun a' => wpM P md ops (CH w ns dep Φ g) (fun i => ns.contains i) g T Q rest (k + 1) a') [o] a) : wpM P md ops (CH w ns dep Φ g) (fun i => ns.contains i) g T Q (o :: rest) k a := by
  have skip : ∀ {listed : Array Bool} {W : World}, CH w ns dep Φ g listed W → CH w ns dep Φ g (listed.setIfInBounds k true) W := fun {listed W} hW => by
    refine ⟨hW.1, fun j hj hl => ?_⟩
    have hjk : k ≠ j := fun e => by subst e; rw [List.contains_iff_mem.2 hj] at hn; cases hn
    rw [getD_set_ne false hjk] at hl
    obtain ⟨h1, h2⟩ := hW.2 j hj hl
    exact ⟨h1, fun i hi => getD_set_true (h2 i hi)⟩
  unfold wpQuiet at h
  split at h
  · rename_i hw
    obtain ⟨v, h1, h2⟩ := h
    refine ⟨v, ⟨.inr ⟨hn, .inl ⟨hw, fun listed W hl hW => ?_⟩⟩, fun e => (by have e' : ns.contains k = true := e; rw [hn] at e'; cases e')⟩, h2⟩
    have h3 := h1 W ⟨⟨W, hW.1⟩, rfl⟩
    unfold Oper.quietAt at h3
    cases hr : (execOp a.eval o).run P W with
    | ok n w' =>
      obtain ⟨u, rfl⟩ := isV_value hV hr
      rw [hr] at h3
      simp only [Oper.quietUpon] at h3
      simp only [uponV]
      obtain ⟨e1, e2⟩ := h3
      subst e1
      exact ⟨e2, skip hW⟩
    | halt x w' => rw [hr] at h3; simp only [Oper.quietUpon] at h3
  · rename_i hw
    exact ⟨undef, ⟨.inr ⟨hn, .inr ⟨by simpa using hw, rfl, fun listed W hl hW => skip hW⟩⟩, fun e => (by have e' : ns.contains k = true := e; rw [hn] at e'; cases e')⟩, h⟩
/-- an operation that yields one value in every world -/
theorem wpH_pure (hn : ns.contains k = false) (hw : Region.wanted o (yielded ops a.tmps) = true) {v : Value} (hr : ∀ W, (execOp a.eval o).run P W = .ok (.value v) W) (h : wpM P md ops (CH w ns dep Φ g) (fun i => ns.contains i) g T Q rest (k + 1) (a.put o.dst v)) : wpM P md ops (CH w ns dep Φ g) (fun i => ns.contains i) g T Q (o :: rest) k a := by
  refine ⟨v, ⟨.inr ⟨hn, .inl ⟨hw, fun listed W hl hW => ?_⟩⟩, fun e => (by have e' : ns.contains k = true := e; rw [hn] at e'; cases e')⟩, h⟩
  rw [hr W]
  refine ⟨rfl, hW.1, fun j hj hl' => ?_⟩
  have hjk : k ≠ j := fun e => by subst e; rw [List.contains_iff_mem.2 hj] at hn; cases hn
  rw [getD_set_ne false hjk] at hl'
  obtain ⟨h1, h2⟩ := hW.2 j hj hl'
  exact ⟨h1, fun i hi => getD_set_true (h2 i hi)⟩
/-- an operation that makes fresh memory -/
theorem wpH_new (hn : ns.contains k = true) (hw : Region.wanted o (yielded ops a.tmps) = true) (hT : T k (execOp a.eval o)) (h : wpM P md ops (CH w ns dep Φ g) (fun i => ns.contains i) g T Q rest (k + 1) (a.put o.dst (g k))) : wpM P md ops (CH w ns dep Φ g) (fun i => ns.contains i) g T Q (o :: rest) k a :=
  ⟨g k, ⟨.inl ⟨hn, rfl, hw⟩, fun _ => hT⟩, h⟩
end
/-- what a fresh operation does: no old block is changed; its value is of the shape V, and Φ is known of it -/
def TS (P : Program) (w : World) (dep : Nat → List Nat) (V : Nat → Value → Prop) (Φ : Nat → (Nat → Value) → World → Prop) (g : Nat → Value) (k : Nat) (s : Sem Next) : Prop :=
  ∀ W, Below w.heap.size w W → (∀ j ∈ dep k, Φ j g W) → uponN P (fun v W' => V k v ∧ Below W.heap.size W W' ∧ ∀ g', g' k = v → (∀ j ∈ dep k, g' j = g j) → Φ k g' W') (s.run P W)
section
variable {P : Program} {w : World} {dep : Nat → List Nat} {V : Nat → Value → Prop} {Φ : Nat → (Nat → Value) → World → Prop} {g : Nat → Value} {k : Nat} {o : Oper} {a : Act}
/-- a call -/
theorem TS.call {f : FuncId} {xs : Array Operand} {ats : Array TypeId} {dst : Option Tmp} {ty : TypeId} {pos : String} {after : Array Edge} {gd : Option (Nat × Bool)} {av : Array Value} (hav : xs.map a.eval = av) (hf : ∀ W, (callFunc f (#[] ++ av ++ #[])).run P W = .ok (.enter f av) W)
    (h : ∀ W, Below w.heap.size w W → (∀ j ∈ dep k, Φ j g W) → Calls P f av W fun e W' => ∃ v, e = .returned v ∧ V k v ∧ Below W.heap.size W W' ∧ ∀ g', g' k = v → (∀ j ∈ dep k, g' j = g j) → Φ k g' W') :
    TS P w dep V Φ g k (execOp a.eval ⟨dst, .call ⟨.value (.func f), xs, ats⟩, ty, pos, after, gd⟩) := by
  intro W hW hd
  rw [execOp_call_go, hav, hf]
  exact h W hW hd
/-- what yields a value -/
theorem TS.val {s : Sem Next} (h : ∀ W, Below w.heap.size w W → (∀ j ∈ dep k, Φ j g W) → ∃ v W', s.run P W = .ok (.value v) W' ∧ V k v ∧ Below W.heap.size W W' ∧ ∀ g', g' k = v → (∀ j ∈ dep k, g' j = g j) → Φ k g' W') : TS P w dep V Φ g k s := by
  intro W hW hd
  obtain ⟨v, W', h1, h2⟩ := h W hW hd
  rw [h1]; exact h2
/-- a slice is made -/
theorem TS.make {t : TypeId} {l c : Operand} (ho : o.op = .makeSlice t l c) {lv cv : Value} (hl : a.eval l = lv) (hc : a.eval c = cv)
    (h : ∀ W, Below w.heap.size w W → (∀ j ∈ dep k, Φ j g W) → ∃ v W', (Instr.makeSlice t lv cv).run P W = .ok v W' ∧ V k v ∧ Below W.heap.size W W' ∧ ∀ g', g' k = v → (∀ j ∈ dep k, g' j = g j) → Φ k g' W') : TS P w dep V Φ g k (execOp a.eval o) := by
  refine TS.val fun W hW hd => ?_
  obtain ⟨v, W', h1, h2⟩ := h W hW hd
  refine ⟨v, W', ?_, h2⟩
  simp [execOp, ho, hl, hc, h1]
/-- what is run for a value -/
theorem TS.sem {s : Sem Value} (hs : execOp a.eval o = (do pure (Next.value (← s)))) (h : ∀ W, Below w.heap.size w W → (∀ j ∈ dep k, Φ j g W) → ∃ v W', s.run P W = .ok v W' ∧ V k v ∧ Below W.heap.size W W' ∧ ∀ g', g' k = v → (∀ j ∈ dep k, g' j = g j) → Φ k g' W') : TS P w dep V Φ g k (execOp a.eval o) := by
  refine TS.val fun W hW hd => ?_
  obtain ⟨v, W', h1, h2⟩ := h W hW hd
  refine ⟨v, W', ?_, h2⟩
  rw [hs, Sem.run_bind, h1]; rfl
end
/-- the region: the first n are the head; ns those that make fresh memory; dep which of these each of them waits for; Φ what is known of their values; T what they run -/
theorem wp_region_ftail {P : Program} {id : Nat} {Q : Exit → Act → World → Prop} {a : Act} {w : World} {l : List Oper} (n : Nat) (ns : List Nat) (dep : Nat → List Nat) (V : Nat → Value → Prop) (Φ : Nat → (Nat → Value) → World → Prop)
    (hm : P.follows .mixedOrders = true) (hB : Region.lexTailB .any l.toArray n = true)
    (hnj : (ns.all fun k => decide (k < n) && match l.toArray[k]? with | some o => (dep k).all (fun j => ns.contains j && o.after.any fun e => Region.binds .any e && e.on == j) | none => false) = true)
    (hst : ∀ k ∈ ns, ∀ g W W', Φ k g W → Below W.heap.size W W' → Φ k g W')
    (hdp : ∀ k ∈ ns, ∀ g g' W, (∀ j, (j = k ∨ j ∈ dep k) → g j = g' j) → Φ k g W → Φ k g' W)
    (hV0 : ∀ k ∈ ns, ∃ v, V k v)
    (h : ∀ g, (∀ k ∈ ns, V k (g k)) → wpM P .any l.toArray (CH w ns dep Φ g) (fun i => ns.contains i) g (TS P w dep V Φ g) (fun a' => ∀ W, Below w.heap.size w W → (∀ k ∈ ns, Φ k g W) → wpList P l.toArray Q (l.drop n) a' W) (l.take n) 0 a) : (Code.region id l.toArray true).wp P Q a w := by
  simp only [Region.lexTailB, Bool.and_eq_true, decide_eq_true_eq] at hB
  obtain ⟨⟨⟨⟨hsel, hn⟩, hs⟩, hc⟩, hlex⟩ := hB
  have hn' : n < l.length := by simpa using hn
  have htl : (l.take n).length = n := by simp; omega
  have hdl : (l.drop n).length = l.toArray.size - n := by simp
  have inv0 : HeadInv .any l.toArray n (Array.replicate l.toArray.size false) :=
    ⟨by simp, fun j oj _ hl => (by rw [getD_replicate_false] at hl; cases hl), fun t _ ht => getD_in (by simpa using ht) (getD_replicate_false _ _)⟩
  have H := fun g hg => wpAnyH_lex (md := .any) (g := l.toArray.size - n) hsel hs hc hn (l.take n) 0 _ a (fun j hj => by
    have hj' : j < n := by rw [htl] at hj; exact hj
    simp [hj']) (by simpa using htl) inv0 (fun j hj => by omega) (by rw [htl]; exact hlex) (h g hg)
  have un : ∀ {listed : Array Bool} {i : Nat}, listed.getD i true = false → listed.getD i false = false := fun {listed i} h1 => getD_both h1
  obtain ⟨g0, hg0⟩ : ∃ g0 : Nat → Value, ∀ k ∈ ns, V k (g0 k) := by
    have h1 : ∀ k, ∃ v, k ∈ ns → V k v := fun k => by
      by_cases hk : k ∈ ns
      · obtain ⟨v, hv⟩ := hV0 k hk; exact ⟨v, fun _ => hv⟩
      · exact ⟨undef, fun h => absurd h hk⟩
    obtain ⟨f, hf⟩ := Classical.axiomOfChoice h1
    exact ⟨f, hf⟩
  refine wp_region_any hm ?_
  have := wpAny_of_H (P := P) (md := .any) (ops := l.toArray) (Q' := Q) (gt := l.toArray.size - n) (n := n) (nn := fun i => ns.contains i) (G := Nat → Value) (val := fun g => g) (V := fun g => ∀ k ∈ ns, V k (g k))
    (Ag := fun listed g g' => ∀ k ∈ ns, listed.getD k false = true → g k = g' k) (Cg := CH w ns dep Φ) (Tg := TS P w dep V Φ)
    (L := fun g listed' a' => Region.seqB .any l.toArray (l.toArray.size - n) n listed' = true ∧ (∀ j, j < n → listed'.getD j false = true) ∧ ∀ W, Below w.heap.size w W → (∀ k ∈ ns, Φ k g W) → wpList P l.toArray Q (l.drop n) a' W)
    (fun g listed a' W hC hL => by
      obtain ⟨h1, h2, h3⟩ := hL
      have hlt : ∀ k ∈ ns, k < n := fun k hk => by
        have := List.all_eq_true.1 hnj k hk
        simp only [Bool.and_eq_true, decide_eq_true_eq] at this
        exact this.1
      have := wpAny_of_seq (md := .any) (Q' := Q) (l.drop n) n listed a' W (fun j => by simp [List.getElem?_drop]) (by rw [hdl]; exact h1) (h3 W hC.1 (fun k hk => (hC.2 k hk (h2 k (hlt k hk))).1))
      rwa [hdl] at this)
    (fun _ _ _ _ _ => rfl) (fun l g g' g'' h1 h2 k hk hl => (h1 k hk hl).trans (h2 k hk hl))
    (fun listed i g g' h1 h2 k hk hl => h1 k hk (getD_set_true hl))
    (fun listed i g g' hi h1 h2 => h2 i (List.contains_iff_mem.1 hi) (getD_on h1).2)
    (fun listed g g' W hA hC => ⟨hC.1, fun k hk hl => ⟨hdp k hk g g' W (fun j hj => by
      rcases hj with rfl | hj
      · exact hA j hk hl
      · have hdj := List.all_eq_true.1 hnj k hk
        simp only [Bool.and_eq_true] at hdj
        have h2 := (hC.2 k hk hl).2 j hj
        cases ho : l.toArray[k]? with
        | none => rw [ho] at hdj; cases hdj.2
        | some o =>
          have h3 := hdj.2
          simp only [ho] at h3
          have h4 := List.all_eq_true.1 h3 j hj
          simp only [Bool.and_eq_true] at h4
          exact hA j (List.contains_iff_mem.1 h4.1) h2) (hC.2 k hk hl).1, (hC.2 k hk hl).2⟩⟩)
    (fun i s listed W g hi hTs hg hr hC => by
      have hin : i ∈ ns := List.contains_iff_mem.1 hi
      have hun := (mem_ready.1 hr).1
      have hdj := List.all_eq_true.1 hnj i hin
      simp only [Bool.and_eq_true] at hdj
      obtain ⟨o, ho, _⟩ := (mem_ready.1 hr).2
      have h3 := hdj.2
      simp only [ho] at h3
      have hdeps : ∀ j ∈ dep i, j ∈ ns ∧ listed.getD j false = true := fun j hj => by
        have h4 := List.all_eq_true.1 h3 j hj
        simp only [Bool.and_eq_true] at h4
        exact ⟨List.contains_iff_mem.1 h4.1, ready_after ho h4.2 hr⟩
      have h5 := hTs W hC.1 (fun j hj => (hC.2 j (hdeps j hj).1 (hdeps j hj).2).1)
      refine uponN_mono (fun v W' ⟨e0, e1, e2⟩ => ?_) h5
      refine ⟨fun j => if j = i then v else g j, fun k hk => ?_, fun k hk hl => ?_, by simp, hC.1.trans (e1.mono hC.1.size), fun k hk hl => ?_⟩
      · by_cases hki : k = i
        · subst hki; simpa using e0
        · simpa [hki] using hg k hk
      · have hki : k ≠ i := fun e => by subst e; rw [un hun] at hl; cases hl
        simp [hki]
      · by_cases hki : k = i
        · subst hki
          refine ⟨e2 _ (by simp) (fun j hj => ?_), fun j hj => getD_set_true (hdeps j hj).2⟩
          have hjk : j ≠ k := fun e => by subst e; have := (hdeps j hj).2; rw [un hun] at this; cases this
          simp [hjk]
        · rw [getD_set_ne false (Ne.symm hki)] at hl
          obtain ⟨f1, f2⟩ := hC.2 k hk hl
          refine ⟨hdp k hk g _ W' (fun j hj => ?_) (hst k hk g W W' f1 e1), fun j hj => getD_set_true (f2 j hj)⟩
          have hji : j ≠ i := fun e => by
            subst e
            rcases hj with e | hj
            · exact hki e.symm
            · have := f2 j hj; rw [un hun] at this; cases this
          simp [hji])
    _ _ a (World.drew w) g0 hg0 ⟨(Below.refl _ _).drew, fun k hk hl => by rw [getD_replicate_false] at hl; cases hl⟩ (fun g hg _ => H g hg)
  rw [htl, show n + (l.toArray.size - n) = l.toArray.size by omega] at this
  exact this
/-- the same with one fresh operation, which makes one block -/
def ΦB (b k0 : Nat) (mk : Nat → Value) (t : TypeId) (cs : Array Value) (k : Nat) (g : Nat → Value) (W : World) : Prop := k = k0 → ∃ p, g k0 = mk p ∧ Bx W p t cs ∧ b ≤ p
def VB (mk : Nat → Value) (_k : Nat) (v : Value) : Prop := ∃ p, v = mk p
theorem TS.block {P : Program} {w : World} {mk : Nat → Value} {t : TypeId} {cs : Array Value} {g : Nat → Value} {k0 : Nat} {o : Oper} {a : Act} (s : Sem Value) (hs : execOp a.eval o = (do pure (Next.value (← s)))) (hr : ∀ W, s.run P W = .ok (mk W.heap.size) (W.alloc (.cells cs t))) :
    TS P w (fun _ => []) (VB mk) (ΦB w.heap.size k0 mk t cs) g k0 (execOp a.eval o) :=
  TS.sem hs fun W hW _ => ⟨_, _, hr W, ⟨_, rfl⟩, (Below.refl _ _).alloc (Nat.le_refl _) _, fun g' hg' _ _ => ⟨_, hg', Bx.new _ _ _, hW.size⟩⟩
theorem wp_region_fblock {P : Program} {id : Nat} {Q : Exit → Act → World → Prop} {a : Act} {w : World} {l : List Oper} (n k0 : Nat) (mk : Nat → Value) (t : TypeId) (cs : Array Value) (hmk : ∀ p q, mk p = mk q → p = q)
    (hm : P.follows .mixedOrders = true) (hB : Region.lexTailB .any l.toArray n = true)
    (hnj : (([k0] : List Nat).all fun k => decide (k < n) && match l.toArray[k]? with | some o => (([] : List Nat)).all (fun j => ([k0] : List Nat).contains j && o.after.any fun e => Region.binds .any e && e.on == j) | none => false) = true)
    (h : ∀ g p, g k0 = mk p → wpM P .any l.toArray (CH w [k0] (fun _ => []) (ΦB w.heap.size k0 mk t cs) g) (fun i => ([k0] : List Nat).contains i) g (TS P w (fun _ => []) (VB mk) (ΦB w.heap.size k0 mk t cs) g)
      (fun a' => ∀ W, Below w.heap.size w W → Bx W p t cs → w.heap.size ≤ p → wpList P l.toArray Q (l.drop n) a' W) (l.take n) 0 a) : (Code.region id l.toArray true).wp P Q a w := by
  refine wp_region_ftail n [k0] (fun _ => []) (VB mk) (ΦB w.heap.size k0 mk t cs) hm hB hnj ?_ ?_ ?_ ?_
  · intro k hk g W W' h hb e
    obtain ⟨p, a1, a2, a3⟩ := h e
    exact ⟨p, a1, a2.below hb, a3⟩
  · intro k hk g g' W he h e
    obtain ⟨p, a1, a2, a3⟩ := h e
    subst e
    exact ⟨p, by rw [← he k (.inl rfl)]; exact a1, a2, a3⟩
  · intro k _; exact ⟨mk 0, 0, rfl⟩
  · intro g hV
    obtain ⟨p, hp⟩ := hV k0 (by simp)
    have h1 := h g p hp
    have mono : ∀ (r : List Oper) (k : Nat) (a' : Act), wpM P .any l.toArray (CH w [k0] (fun _ => []) (ΦB w.heap.size k0 mk t cs) g) (fun i => ([k0] : List Nat).contains i) g (TS P w (fun _ => []) (VB mk) (ΦB w.heap.size k0 mk t cs) g)
        (fun a' => ∀ W, Below w.heap.size w W → Bx W p t cs → w.heap.size ≤ p → wpList P l.toArray Q (l.drop n) a' W) r k a' → wpM P .any l.toArray (CH w [k0] (fun _ => []) (ΦB w.heap.size k0 mk t cs) g) (fun i => ([k0] : List Nat).contains i) g (TS P w (fun _ => []) (VB mk) (ΦB w.heap.size k0 mk t cs) g)
        (fun a' => ∀ W, Below w.heap.size w W → (∀ k ∈ [k0], ΦB w.heap.size k0 mk t cs k g W) → wpList P l.toArray Q (l.drop n) a' W) r k a' := by
      intro r
      induction r with
      | nil =>
        intro k a' h0 W hW hΦ
        obtain ⟨q, b1, b2, b3⟩ := hΦ k0 (by simp) rfl
        obtain rfl := hmk _ _ (hp.symm.trans b1)
        exact h0 W hW b2 b3
      | cons o r ih => intro k a' h0; obtain ⟨v, h1, h2⟩ := h0; exact ⟨v, h1, ih _ _ h2⟩
    exact mono _ _ _ h1
theorem Bx.rdK {w : World} {p n sz : Nat} {t : TypeId} {cs : Array Value} (h : Bx w p t cs) (hs : cs.size = n * sz) (hn : n ≤ 1048576) : Rd w sz (.slice (some ⟨p, 0, none⟩) n n) n cs.toList := by
  refine ⟨_, n, rfl, by omega, by omega, by simpa using hs, fun h => (by cases h), fun _ ad hh => ?_⟩
  cases hh
  refine ⟨rfl, h.lt, fun j u hu => ?_⟩
  rw [show (0 + j) = j by omega, h.cell]
  simpa using hu
theorem mk_ptr (p q : Nat) (h : Value.pointer (some ⟨p, 0, none⟩) = Value.pointer (some ⟨q, 0, none⟩)) : p = q := by
  injection h with h; injection h with h; injection h with h
theorem mk_sl (n p q : Nat) (h : Value.slice (some ⟨p, 0, none⟩) n n = Value.slice (some ⟨q, 0, none⟩) n n) : p = q := by
  injection h with h; injection h with h; injection h with h
end Go.Proofs.Ytbfmdbeeiicabaa
