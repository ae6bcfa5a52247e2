/- Contracts of the functions that the laws 'A' reach, part 18. No condition. -/
import Derived.Test.YtmbokdnndlnjkaaMAq
set_option linter.unusedVariables false
set_option linter.unusedSimpArgs false
namespace Go.Proofs.Ytmbokdnndlnjkaa.L19
open L02 L07 L13 L14 L15 L16 L18 L20
def sumE (l : List UInt64) : Int := if allErr l = 0 then sumN (freeL l) else 0
theorem sum_bound : ∀ {F : List Hb} {j : Nat}, (∀ c ∈ F, 0 ≤ c.size ∧ c.size ≤ 2000) → F.length ≤ j → 0 ≤ sumN F ∧ sumN F ≤ 2000 * j
  | [], j, _, _ => by simp only [sumN]; omega
  | c :: F, j, h, hl => by
    rw [List.length_cons] at hl
    have h1 := sum_bound (F := F) (j := j - 1) (fun c hc => h c (List.mem_cons_of_mem _ hc)) (by omega)
    have h2 := h c List.mem_cons_self
    rw [sumN]; omega
theorem sumN_app : ∀ (A B : List Hb), sumN (A ++ B) = sumN A + sumN B
  | [], B => by simp [sumN]
  | a :: A, B => by rw [List.cons_append, sumN, sumN, sumN_app A B]; omega
theorem Seg.sum {l : List UInt64} {k q : Nat} {L : List Hb} (h : Seg l k L q) : (q : Int) = k + sumN L := by
  induction h with
  | nil h => simp [sumN]
  | cons hk hs ht ih => rw [sumN, stand_size hs]; omega
theorem sum_parts : ∀ {L : List Hb}, (∀ b ∈ L, b.kind = 1 ∨ b.kind = 2) → sumN L = sumN (free L) + sumN (objs L)
  | [], _ => rfl
  | b :: L, h => by
    have ih := sum_parts (L := L) (fun c hc => h c (List.mem_cons_of_mem _ hc))
    rcases h b List.mem_cons_self with hb | hb
    · have e1 : free (b :: L) = free L := by unfold free; rw [List.filter_cons_of_neg (by simp; omega)]
      have e2 : objs (b :: L) = b :: objs L := by unfold objs; rw [List.filter_cons_of_pos (by simp; omega)]
      rw [e1, e2, sumN, sumN]; omega
    · have e1 : free (b :: L) = b :: free L := by unfold free; rw [List.filter_cons_of_pos (by simp; omega)]
      have e2 : objs (b :: L) = objs L := by unfold objs; rw [List.filter_cons_of_neg (by simp; omega)]
      rw [e1, e2, sumN, sumN]; omega
/-- the words of free extents and of objects are those of the heap -/
theorem sum_all {l : List UInt64} (h : allErr l = 0) : sumN (freeL l) + sumN (O19 l) = (l.length : Int) - 128 := by
  have h1 := (seg_of_all h).1.sum
  have h2 := sum_parts (L := allL l) (fun b hb => by
    obtain ⟨a, _, _, h3, h4, _⟩ := all_mem h hb
    have := (stand_ok h3).bounds
    rw [← h4] at this
    exact this.2.2.2.1)
  have e1 : freeL l = free (allL l) := rfl
  have e2 : O19 l = objs (allL l) := rfl
  rw [e1, e2]; omega
theorem all_pair {l : List UInt64} (h : allErr l = 0) : (allL l).Pairwise fun a b => a.at_ + a.size ≤ b.at_ :=
  (chain_apart (chain_iff.1 (parsed_ok.1 (allErr_ok h).2).1)).2
theorem all_size {l : List UInt64} (h : allErr l = 0) {b : Hb} (hb : b ∈ allL l) : 2 ≤ b.size := by
  obtain ⟨a, _, _, h3, h4, _⟩ := all_mem h hb
  have := (stand_ok h3).bounds
  rw [← h4] at this
  omega
end Go.Proofs.Ytmbokdnndlnjkaa.L19
namespace Go.Proofs.Ytmbokdnndlnjkaa.L19
open L02 L07 L13 L14 L15 L16 L18 L20
/-- a block by its address -/
theorem find_of {l : List UInt64} (h : allErr l = 0) {b : Hb} (hb : b ∈ allL l) : findErr l b.at_ = 0 ∧ find l b.at_ = b := by
  have hf : findB (allL l) b.at_ = some b := by
    unfold findB
    cases hc : (allL l).find? (fun c => decide (c.at_ = b.at_)) with
    | none =>
      rw [List.find?_eq_none] at hc
      have := hc b hb
      simp at this
    | some c =>
      have h1 := List.mem_of_find?_eq_some hc
      have h2 := List.find?_some hc
      have h3 : c.at_ = b.at_ := by simpa using h2
      have h4 := all_size h h1
      have h5 := all_size h hb
      rcases all_apart h h1 hb with e | e | e
      · rw [e]
      · omega
      · omega
  have he : findErr l b.at_ = 0 := by rw [findErr, if_pos h, hf]; rfl
  exact ⟨he, by rw [find, if_pos he, hf]; rfl⟩
section
variable {l l' : List UInt64} {q k p n c : Nat} {g0 : Int} {b : Hb} {t : List UInt8} {P S : List Hb}
theorem Al.len (h : Al l q k p n c g0 b t P S l') : l'.length = l.length := by rw [h.hl, List.length_set, putW_len]
theorem Al.res (h : Al l q k p n c g0 b t P S l') : resErr l' k (g0 + 1) = 0 ∧ L18.res l' k (g0 + 1) = (p : Int) := by
  obtain ⟨_, _, _, r', _, hs, _⟩ := h.after
  have hk : (slots l')[k]? = some ⟨g0 + 1, true, (p : Int)⟩ := by rw [hs, List.getElem?_set_self (by rw [slots_len' h.rt.sl]; exact h.hk)]
  have := resErr_at r'.sl hk (g0 + 1)
  exact ⟨by rw [this.1, if_pos ⟨rfl, rfl⟩], this.2 rfl rfl⟩
theorem Al.found (h : Al l q k p n c g0 b t P S l') : findErr l' (p : Int) = 0 ∧ find l' (p : Int) = objH p n q := by
  obtain ⟨_, _, _, r', _, _, ⟨R, _, hL⟩, _⟩ := h.after
  exact find_of r'.al (b := objH p n q) (by rw [hL]; simp)
theorem Al.words (h : Al l q k p n c g0 b t P S l') : sumE l' = sumE l - n ∧ 0 ≤ sumE l' ∧ sumE l ≤ 2000 := by
  obtain ⟨_, _, _, r', _, _, _, _, e1, e2⟩ := h.after
  have s0 := sum_all h.rt.al
  have s1 := sum_all r'.al
  rw [e1, sumN_app] at s0
  rw [e2, sumN_app, sumN, h.len] at s1
  have hp : ∀ {m : List UInt64}, allErr m = 0 → 0 ≤ sumN (freeL m) ∧ 0 ≤ sumN (O19 m) := fun {m} hm => by
    have hb : ∀ c ∈ allL m, 0 ≤ c.size ∧ c.size ≤ 2000 := fun c hc => by
      obtain ⟨a, _, _, h3, h4, _⟩ := all_mem hm hc
      have := (stand_ok h3).bounds
      rw [← h4] at this
      omega
    exact ⟨(sum_bound (j := (freeL m).length) (fun c hc => hb c (free_mem.1 hc).1) (Nat.le_refl _)).1, (sum_bound (j := (O19 m).length) (fun c hc => hb c (objs_mem.1 hc).1) (Nat.le_refl _)).1⟩
  have h1 := hp h.rt.al
  have h2 := hp r'.al
  have h3 := h.rt.sz.2.1
  rw [e1, sumN_app] at h1
  have ho : (objH p n q).size = (n : Int) := rfl
  rw [ho] at s1
  unfold sumE
  rw [if_pos r'.al, if_pos h.rt.al]
  omega
theorem Al.zero (h : Al l q k p n c g0 b t P S l') : ∀ i, p < i → i < p + n → l'[i]? = some 0 := fun i h1 h2 => by
  have hc := h.hc; have hp := h.hp; have hk := h.hk
  obtain ⟨w1, w2, w3, w4⟩ := newW_get (l := l) (p := p) (n := n) (q := q) (c := c) (by omega) hc.1 (by omega)
  have h3 : (putW l p (newW p n q c)).getD i 0 = 0 := w2 i h1 h2
  have hlt : i < (putW l p (newW p n q c)).length := by rw [putW_len]; omega
  rw [h.hl, List.getElem?_set_ne (by omega), List.getElem?_eq_getElem hlt]
  rw [List.getD_eq_getElem?_getD, List.getElem?_eq_getElem hlt] at h3
  exact congrArg some h3
end
end Go.Proofs.Ytmbokdnndlnjkaa.L19
namespace Go.Proofs.Ytmbokdnndlnjkaa.L19
open L02 L07 L13 L14 L15 L16 L18 L20
theorem runE_get : ∀ (xs : List UInt64) (a : Int) (j : Nat), (runE a xs)[j]? = xs[j]?.map fun x => (a + (j : Int), x)
  | [], a, j => by simp [runE]
  | x :: xs, a, 0 => by simp [runE]
  | x :: xs, a, j + 1 => by
    rw [runE, List.getElem?_cons_succ, runE_get xs, List.getElem?_cons_succ]
    cases xs[j]? with
    | none => rfl
    | some y => show some (a + 1 + (j : Int), y) = some (a + ((j + 1 : Nat) : Int), y); congr 2; omega
/-- an address of a change -/
def adrE (k p j : Nat) : Int := if j = 0 then 112 + (k : Int) else ((p + j - 1 : Nat) : Int)
/-- blocks that are objects before an address -/
def isO (p : Int) (b : Hb) : Bool := decide (b.kind = 1) && decide (b.at_ < p)
def cntF (p : Int) (L : List Hb) : Nat := (L.filter (isO p)).length
theorem cntF_app (p : Int) (A B : List Hb) : cntF p (A ++ B) = cntF p A + cntF p B := by unfold cntF; rw [List.filter_append, List.length_append]
theorem cntF_objs {p : Int} {L : List Hb} (h : ∀ b ∈ L, b.at_ < p) : cntF p L = (objs L).length := by
  unfold cntF objs
  congr 1
  refine List.filter_congr fun b hb => ?_
  unfold isO
  rw [decide_eq_true (h b hb), Bool.and_true]
theorem cntF_none {p : Int} {L : List Hb} (h : ∀ b ∈ L, p ≤ b.at_) : cntF p L = 0 := by
  unfold cntF
  rw [List.length_eq_zero_iff, List.filter_eq_nil_iff]
  intro b hb
  unfold isO
  have := h b hb
  rw [decide_eq_false (by omega : ¬ b.at_ < p), Bool.and_false]; simp
section
variable {l l' : List UInt64} {q k p n c : Nat} {g0 : Int} {b : Hb} {t : List UInt8} {P S : List Hb}
theorem Al.small (h : Al l q k p n c g0 b t P S l') : ∃ N, 3 ≤ N ∧ N ≤ 12 ∧ (aiL l q).length = N ∧ N ≤ c + 1 ∧ ∀ j e, (aiL l q)[j]? = some e → e.1 = adrE k p j := by
  have hc := h.hc; have hn := h.hn2
  have hl := newW_len (p := p) (q := q) (c := c) (n := n) (by omega)
  refine ⟨(newW p n q c).length + 1, ?_, ?_, ?_, ?_, ?_⟩
  · omega
  · rw [hl]; split <;> omega
  · rw [h.hAL, List.length_cons, runE_len]
  · rw [hl]; split <;> omega
  · intro j e he
    rw [h.hAL] at he
    cases j with
    | zero => simp at he; rw [← he]; rfl
    | succ j =>
      rw [List.getElem?_cons_succ, runE_get] at he
      obtain ⟨x, _, hx⟩ := Option.map_eq_some_iff.1 he
      rw [← hx]
      unfold adrE
      rw [if_neg (by omega)]
      show (p : Int) + (j : Int) = _
      omega
theorem Al.ext (h : Al l q k p n c g0 b t P S l') : (∃ i : Nat, (freeL l)[i]? = some b) ∧ ∀ d ∈ freeL l, d.at_ = (p : Int) → d.at_ + d.size = p + c := by
  have hb : b ∈ freeL l := free_mem.2 ⟨by rw [h.hL]; simp, h.hbk⟩
  refine ⟨List.getElem?_of_mem hb, fun d hd ha => ?_⟩
  have h1 := (free_mem.1 hd).1
  have h2 := (free_mem.1 hb).1
  have h3 := all_size h.rt.al h1
  have h4 := all_size h.rt.al h2
  have hat := h.hat; have hsz := h.hsz
  rcases all_apart h.rt.al h1 h2 with e | e | e
  · rw [e]; omega
  · omega
  · omega
theorem Al.first (h : Al l q k p n c g0 b t P S l') : cntF p (allL l') = (objs P).length ∧ (objs P).length ≤ (O19 l).length ∧ (O19 l).length ≤ 959 := by
  obtain ⟨_, _, _, r', _, _, ⟨R, _, hL⟩, _, e1, e2⟩ := h.after
  have hp := all_pair r'.al
  have hs : ∀ d ∈ allL l', 2 ≤ d.size := fun d hd => all_size r'.al hd
  have hlen : (O19 l').length ≤ 960 := Nat.le_trans (List.length_filter_le _ _) (all_len r'.al)
  rw [hL] at hp hs ⊢
  obtain ⟨_, pb, pc⟩ := List.pairwise_append.1 hp
  rw [List.append_assoc] at pb
  refine ⟨?_, by rw [e1, List.length_append]; omega, ?_⟩
  · rw [cntF_app, cntF_objs, cntF_none]
    · rfl
    · intro d hd
      rw [List.append_assoc] at hd
      rcases List.mem_cons.1 hd with rfl | hd
      · exact Int.le_refl _
      · have := (List.pairwise_cons.1 pb).1 d hd
        have h2 : (objH p n q).at_ = (p : Int) := rfl
        have h3 : (objH p n q).size = (n : Int) := rfl
        omega
    · intro d hd
      have := pc d hd (objH p n q) (by simp)
      have h2 : (objH p n q).at_ = (p : Int) := rfl
      have := hs d (by simp [hd])
      omega
  · rw [e2, List.length_append, List.length_cons] at hlen
    rw [e1, List.length_append]; omega
theorem Al.sides (h : Al l q k p n c g0 b t P S l') : ¬ LastF P ∧ ¬ HeadF S := by
  have hna := (seg_of_all h.rt.al).2
  rw [h.hL] at hna
  constructor
  · intro h1; exact hna (adj_app.2 (.inr (.inr ⟨h1, headF_cons.2 h.hbk⟩)))
  · intro h1
    exact hna (adj_app.2 (.inr (.inl ((adj_app (A := [b])).2 (.inr (.inr ⟨(lastF_snoc (L := [])).2 h.hbk, h1⟩))))))
theorem Al.hd (h : Al l q k p n c g0 b t P S l') : ∃ q' t', Hd l' k p (objs P).length q' (g0 + 1) (objH p n q) t' := by
  obtain ⟨_, _, _, r', _, hs, _, _, _, hO⟩ := h.after
  exact Hd.mk2 r' h.hk (by rw [hs, List.getElem?_set_self (by rw [slots_len' h.rt.sl]; exact h.hk)]) (by rw [hO, List.getElem?_append_right (Nat.le_refl _), Nat.sub_self]; rfl) rfl
/-- nothing refers to what was just allocated -/
theorem Al.idle (h : Al l q k p n c g0 b t P S l') : fiE l' k (g0 + 1) = 0 := by
  obtain ⟨q', t', hd⟩ := h.hd
  obtain ⟨_, _, _, r', _, hs, _, hT, hO, hO'⟩ := h.after
  have hcs : b.size.toNat = c := by rw [h.hsz]; rfl
  obtain ⟨l1, hl1⟩ : ∃ l1, l1 = putW l p (newW p n q c) := ⟨_, rfl⟩
  obtain ⟨_, _, _, _, _, _, _, hap, hfw1, _⟩ := seen_alloc h.rt h.hL h.hbk h.hat h.hT h.hn (by rw [h.hsz]; have := h.hc; omega) (l' := l1) (by rw [hcs]; exact hl1)
  have hfw : ∀ d ∈ O19 l, ∀ j, j < (kindsB (T19 l) d).length → fw l' d j = fw l d j := fun d hd j hj => by
    have := objs_low h.rt.al d hd
    have := h.hk
    rw [← hfw1 d hd j hj, h.hl, ← hl1]; exact fw_set (by omega)
  unfold fiE
  rw [if_pos hd.hask, if_neg]
  rw [hd.busy]
  rintro (⟨i, s, h1, h2, h3, h4⟩ | ⟨d, h1, h2, j, h3, h4, h5⟩)
  · rw [hs, List.getElem?_set_ne (Ne.symm h1)] at h2
    exact hap s.at_ (h.rt.slots s (List.mem_of_getElem? h2) h3) h4
  · have hdm : d ∈ O19 l := by
      rw [hO'] at h1
      rw [hO]
      rcases List.mem_append.1 h1 with h1 | h1
      · exact List.mem_append.2 (.inl h1)
      · rcases List.mem_cons.1 h1 with rfl | h1
        · exact absurd rfl h2
        · exact List.mem_append.2 (.inr h1)
    rw [hT] at h3 h4
    rw [hfw d hdm j h3] at h5
    have h11 : fw l d j = 0 ∨ IsObj (O19 l) (fw l d j).toNat := h.rt.good 11 (by omega) (by omega) d hdm j h3 h4
    rcases h11 with e | e
    · rw [e] at h5; have := h.hp; simp at h5; omega
    · exact hap _ e h5
end
theorem all_idx {l : List UInt64} (h : allErr l = 0) {i j : Nat} {b : Hb} (hi : (allL l)[i]? = some b) (hj : (allL l)[j]? = some b) : i = j := by
  have hp := List.pairwise_iff_getElem.1 (all_pair h)
  have hs := all_size h (List.mem_of_getElem? hi)
  obtain ⟨i1, i2⟩ := List.getElem?_eq_some_iff.1 hi
  obtain ⟨j1, j2⟩ := List.getElem?_eq_some_iff.1 hj
  rcases Nat.lt_trichotomy i j with hlt | e | hlt
  · have := hp i j i1 j1 hlt
    rw [i2, j2] at this; omega
  · exact e
  · have := hp j i j1 i1 hlt
    rw [i2, j2] at this; omega
/-- what an object that stands between blocks that aren't free becomes -/
theorem becomes_mid {P S R : List Hb} {o : Hb} (hP : ¬ LastF P) (hS : ¬ HeadF S) (hR : R = [] ∨ ∃ r, R = [r] ∧ r.kind = 2) : becomes (P ++ (([o] ++ R) ++ S)) P.length = ⟨o.at_, o.size + sumN R, 2, 0, false, 0⟩ := by
  have hg : (P ++ (([o] ++ R) ++ S)).getD P.length .none = o := by rw [List.getD_eq_getElem?_getD, List.getElem?_append_right (Nat.le_refl _), Nat.sub_self]; rfl
  have hg1 : (P ++ (([o] ++ R) ++ S)).getD (P.length + 1) .none = (R ++ S).getD 0 .none := by rw [List.getD_eq_getElem?_getD, List.getElem?_append_right (by omega), show P.length + 1 - P.length = 1 by omega, List.getD_eq_getElem?_getD]; rfl
  have hlow : lowF (P ++ (([o] ++ R) ++ S)) P.length = false := by
    unfold lowF
    rw [Bool.and_eq_false_iff]
    rcases List.eq_nil_or_concat P with rfl | ⟨P0, x, rfl⟩
    · exact .inl rfl
    · refine .inr (decide_eq_false fun hk => hP ⟨P0, x, by simp, ?_⟩)
      have hx : ((P0.concat x) ++ (([o] ++ R) ++ S)).getD ((P0.concat x).length - 1) .none = x := by
        rw [List.getD_eq_getElem?_getD, List.concat_eq_append, List.length_append, List.append_assoc, List.getElem?_append_right (by simp)]
        simp
      rw [hx] at hk; exact hk
  unfold becomes
  rw [if_neg (by rw [hlow]; simp), if_neg (by rw [hlow]; simp), hg, hg1]
  have hh : highF (P ++ (([o] ++ R) ++ S)) P.length = decide (((R ++ S).getD 0 .none).kind = 2) := by unfold highF; rw [hg1]
  rw [hh]
  rcases hR with rfl | ⟨r, rfl, hr⟩
  · rw [if_neg]
    · simp [sumN]
    · rw [List.nil_append]
      cases S with
      | nil => decide
      | cons s S => intro e; exact hS (headF_cons.2 (of_decide_eq_true e))
  · have e2 : decide ((([r] ++ S).getD 0 Hb.none).kind = 2) = true := decide_eq_true hr
    rw [if_pos e2]
    show (⟨o.at_, o.size + 0 + r.size, 2, 0, false, 0⟩ : Hb) = _
    rw [sumN, sumN]; congr 1; omega
section
variable {l l' : List UInt64} {q k p n c : Nat} {g0 : Int} {b : Hb} {t : List UInt8} {P S : List Hb}
/-- what was allocated and freed at once leaves the blocks as they were -/
theorem Al.back (h : Al l q k p n c g0 b t P S l') (y : List UInt64) (hy : y = made l' (fiL l' k (g0 + 1))) :
    Rt y ∧ y.length = l.length ∧ (allL y).length = (allL l).length ∧ (∀ i, i < 128 → i ≠ 112 + k → y.getD i 0 = l.getD i 0) ∧
      ∀ (j : Nat) (s : Hb), (allL l)[j]? = some s → ∃ u : Hb, (allL y)[j]? = some u ∧ u.at_ = s.at_ ∧ u.size = s.size ∧ u.kind = s.kind ∧ u.ty = s.ty ∧ u.mark = s.mark ∧ (s.kind ≠ 2 → u.next = s.next) ∧ (s.kind = 1 → ∀ i : Nat, s.at_ ≤ i → (i : Int) < s.at_ + s.size → y.getD i 0 = l.getD i 0) := by
  obtain ⟨q', t', hd⟩ := h.hd
  obtain ⟨i, m, p', f1, f2, f3, f4, f5, f6, f7, f8, f9, f10, _⟩ := hd.free h.idle
  rw [← hy] at f9 f10
  obtain ⟨_, _, _, r', _, hs, ⟨R, hR, hL⟩, _, _, _⟩ := h.after
  obtain ⟨n1, n2⟩ := h.sides
  have hc := h.hc; have hn := h.hn2; have hp := h.hp; have hk := h.hk
  have hi : i = P.length := all_idx r'.al f1 (by rw [hL, List.getElem?_append_right (Nat.le_refl _), Nat.sub_self]; rfl)
  have hRk : R = [] ∨ ∃ r, R = [r] ∧ r.kind = 2 := by
    rcases hR with ⟨e, _⟩ | ⟨⟨nx, e⟩, _⟩
    · exact .inl e
    · exact .inr ⟨_, e, rfl⟩
  have hRs : sumN R = (c : Int) - n := by
    rcases hR with ⟨e, e2⟩ | ⟨⟨nx, e⟩, _⟩
    · rw [e, e2, sumN]; omega
    · rw [e, sumN, sumN]
      show ((c - n : Nat) : Int) + 0 = _
      omega
  have hm : m = ⟨(p : Int), (c : Int), 2, 0, false, 0⟩ := by
    rw [f2, hi, hL, becomes_mid n1 n2 hRk, hRs]
    show (⟨(p : Int), (n : Int) + ((c : Int) - n), 2, 0, false, 0⟩ : Hb) = _
    congr 1; omega
  have hp' : p' = p := by rw [hm] at f4; have : (p : Int) = p' := f4; omega
  subst hp'
  have hln : l'.length = l.length := h.len
  have hyl : y.length = l.length := by rw [f9, List.length_set, List.length_set, hln]
  have hout : ∀ i, i ≠ 112 + k → (i < p' ∨ p' + c ≤ i) → y.getD i 0 = l.getD i 0 := fun i h1 h2 => by
    obtain ⟨w1, w2, w3, w4⟩ := newW_get (l := l) (p := p') (n := n) (q := q) (c := c) (by omega) hc.1 (by omega)
    rw [f9, getD_set_ne (by omega), getD_set_ne (by omega), h.hl, getD_set_ne (by omega), w4 i (by omega)]
  have hyp : y.getD p' 0 = L14.word m := by rw [f9, getD_set_self (by rw [List.length_set]; omega)]
  obtain ⟨pc, qc, hcut⟩ := Cut.of h.rt.al (P := P) (M := [b]) (S := S) h.hL
  obtain ⟨o1, o2, o3⟩ := hcut.s2.one
  have hpc : pc = p' := by have := h.hat; omega
  subst hpc
  have hqc : qc = pc + c := by have := h.hsz; omega
  subst hqc
  obtain ⟨m', hm'⟩ : ∃ m', m' = ({ m with next := y.getD (pc + 1) 0 } : Hb) := ⟨_, rfl⟩
  have hmk : m'.kind = 2 := by rw [hm', hm]
  have hms : Seg y pc [m'] (pc + c) := by
    refine Seg.put (b := m') ?_ ?_ ?_ ?_ ?_ (by omega)
    · rw [hm']; exact f6
    · rw [hyp, hm']; rfl
    · rw [hm', hm]
    · rw [hm']
    · rw [hm', hm]; show ((pc + c : Nat) : Int) = (pc : Int) + (c : Int); omega
  have hna := hcut.na
  have hna' : ¬ Adj (P ++ ([m'] ++ S)) := by
    rw [adj_app, adj_app] at hna ⊢
    have e1 : HeadF ([m'] ++ S) ↔ HeadF ([b] ++ S) := by
      show HeadF (m' :: S) ↔ HeadF (b :: S)
      rw [headF_cons, headF_cons, hmk, h.hbk]
    have e2 : LastF [m'] ↔ LastF [b] := by
      rw [show [m'] = [] ++ [m'] from rfl, show [b] = [] ++ [b] from rfl, lastF_snoc, lastF_snoc, hmk, h.hbk]
    rw [e1, e2]
    exact hna
  obtain ⟨c1, c2, _⟩ := hcut.new h.rt.sz hyl (fun i h1 h2 => hout i (by omega) h2) hms hna'
  refine ⟨f10, hyl, by rw [c2, h.hL]; simp, fun i h1 h2 => hout i h2 (by omega), fun j s hj => ?_⟩
  rw [h.hL] at hj
  rw [c2]
  have hword : ∀ s ∈ allL l, s ≠ b → s.kind = 1 → ∀ i : Nat, s.at_ ≤ i → (i : Int) < s.at_ + s.size → y.getD i 0 = l.getD i 0 := fun s hs hne _ i h1 h2 => by
    obtain ⟨a, a1, a2, a3, a4, a5⟩ := all_mem h.rt.al hs
    have e1 : s.at_ = a := by rw [a4]; rfl
    have hat := h.hat; have hsz := h.hsz
    refine hout i (by omega) ?_
    rcases all_apart h.rt.al hs (by rw [h.hL]; simp : b ∈ allL l) with e | e | e
    · exact absurd e hne
    · omega
    · omega
  by_cases hjp : j = P.length
  · subst hjp
    rw [List.getElem?_append_right (Nat.le_refl _), Nat.sub_self] at hj ⊢
    injection hj with hj
    subst hj
    refine ⟨m', rfl, ?_⟩
    have hok := h.hok.2
    rcases hok with ⟨e, _⟩ | ⟨e1, e2, e3, e4⟩
    · have := h.hbk; omega
    · rw [hm', hm]
      have hbk := h.hbk
      exact ⟨h.hat.symm, h.hsz.symm, h.hbk.symm, e2.symm, e3.symm, fun e => absurd hbk e, fun e => by omega⟩
  · have hsame : (P ++ ([m'] ++ S))[j]? = (P ++ (b :: S))[j]? := by
      by_cases hlt : j < P.length
      · rw [List.getElem?_append_left hlt, List.getElem?_append_left hlt]
      · obtain ⟨d, hd⟩ : ∃ d, j - P.length = d + 1 := ⟨j - P.length - 1, by omega⟩
        have e1 : (P ++ ([m'] ++ S))[j]? = ([m'] ++ S)[j - P.length]? := List.getElem?_append_right (by omega)
        have e2 : (P ++ (b :: S))[j]? = (b :: S)[j - P.length]? := List.getElem?_append_right (by omega)
        rw [e1, e2, hd]; rfl
    rw [hsame]
    have hne : s ≠ b := fun e => by
      subst e
      exact hjp (all_idx h.rt.al (by rw [h.hL]; exact hj) (by rw [h.hL, List.getElem?_append_right (Nat.le_refl _), Nat.sub_self]; rfl))
    exact ⟨s, hj, rfl, rfl, rfl, rfl, rfl, fun _ => rfl, hword s (by rw [h.hL]; exact List.mem_of_getElem? hj) hne⟩
end
end Go.Proofs.Ytmbokdnndlnjkaa.L19
namespace Go.Proofs.Ytmbokdnndlnjkaa.L19
open L02 L05 L06 L07 L13 L14 L15 L16 L18 L20
def freeW (n : Int) : UInt64 := L14.word (freeB n)
def ex23x : List UInt64 := made ex23 (fiL ex23 1 1)
theorem ex23_free : fiE ex23 1 1 = 0 ∧ fiL ex23 1 1 = [(113, 4294967296), (132, freeW 4)] := by decide +kernel
theorem ex23_free2 : fiE ex23x 2 1 = 0 ∧ fiL ex23x 2 1 = [(114, 4294967296), (132, freeW 124)] := by decide +kernel
end Go.Proofs.Ytmbokdnndlnjkaa.L19
namespace Go.Proofs.Ytmbokdnndlnjkaa.L19
open L02 L05 L06 L07 L13 L14 L15 L16 L18 L20
theorem ex22_change : aiE ex22 0 = 0 ∧ aiS ex22 0 = 0 ∧ aiG ex22 0 = 1 ∧ ∃ E, aiL ex22 0 = E ∧ E.map (·.1) = [112, 128, 129, 130, 131, 132] ∧ (E.map (·.2))[5]? = some (freeW 124) := by
  refine ⟨by decide +kernel, by decide +kernel, by decide +kernel, _, rfl, by decide +kernel, by decide +kernel⟩
end Go.Proofs.Ytmbokdnndlnjkaa.L19
namespace Go.Proofs.Ytmbokdnndlnjkaa
open Go.RowKit L01 L02 L05 L06 L07 L13 L14 L15 L18 L19
set_option maxRecDepth 100000 in
set_option maxHeartbeats 4000000 in
theorem example22_any (w : World) : Calls Try.prog 21 #[] w fun e w' => ∃ x, e = .returned x ∧ OwnW w' w.heap.size 24 x ex22 ∧ Below w.heap.size w w' := by
  have B : Below w.heap.size w w := Below.refl _ _
  obtain ⟨L, hL⟩ : ∃ L, L = [freeB 128] := ⟨_, rfl⟩
  obtain ⟨l0, hl0⟩ : ∃ l0, l0 = laid 256 L := ⟨_, rfl⟩
  obtain ⟨ws, hws⟩ : ∃ ws, ws = wordsOf 256 1 := ⟨_, rfl⟩
  obtain ⟨a, ha⟩ : ∃ a, a = w0 [1] := ⟨_, rfl⟩
  obtain ⟨b, hb⟩ : ∃ b, b = w1 [1] := ⟨_, rfl⟩
  have hbk : ∀ b ∈ L, BkOk b := by rw [hL]; decide
  have hl0l : l0.length = 256 := by rw [hl0]; exact laid_len _ _
  have hwsl : ws.length = 8 := by rw [hws]; exact wO_len _ _
  have LT := Lib.hid (fun v w h => LaidR_any 256 v L hbk (by rw [hL]; decide) (by omega) w h)
  have WT := Lib.hid (fun w => Written_any 256 1 w (by decide))
  have KT := Lib.hid (fun v w h => KWriteR_any v [1] a b 0 ha hb (by decide) w h)
  rw [← hl0] at LT; rw [← hws] at WT
  have HX := Lib.hid (show ex22 = putW (putW (putW l0 0 ws) 8 ws) 96 [a, b] from by rw [ex22, base22, hl0, hL, hws, ha, hb])
  have HL := Lib.hid hL; have HL0 := Lib.hid hl0l; have HWS := Lib.hid hwsl
  clear hL hl0 hws ha hb hbk hl0l hwsl
  go_enter Try.func21, Try.ntmps21
  go_wp2_with fail
  refine (LT.out _ _ (lit_blocks L rfl (by rw [HL.out]; rfl) (by rw [HL.out]; rfl) (by rw [HL.out]; decide))).mono ?_
  rintro e w2 ⟨x, rfl, ox, b⟩
  have hal := B.alloc B.size (.cells #[.int .i64 0, .int .i64 128, .int .i64 2, .int .i64 0, .bool false, .int .u64 0] 54)
  replace B := hal.trans (b.mono hal.size)
  replace ox : OwnW w2 w.heap.size 24 x l0 := own_mono ox hal.size
  clear b hal
  have hb1 := B.size
  go_wp2_with fail
  refine (WT.out _).mono ?_
  rintro e w3 ⟨s, rfl, os, b⟩
  have hne := (own_ne ox os (Nat.le_refl _)).1
  replace ox := ox.below b
  replace B := B.trans (b.mono B.size)
  have hb2 := B.size
  clear b
  have HO := Lib.hid (And.intro ox (And.intro os (And.intro hne B)))
  clear ox os hne B
  go_wp2_with fail
  refine (KT.out _ _ (lit_byts [1] rfl rfl rfl (by simp))).mono ?_
  rintro e w4 ⟨rfl, b⟩
  have hal : Below w3.heap.size w3 (w3.alloc (.cells #[.int .u8 1] 5)) := (Below.refl _ _).alloc (Nat.le_refl _) _
  have hb34 := hal.trans (b.mono hal.size)
  obtain ⟨ox, os, hne, B⟩ := HO.out
  replace ox := ox.below hb34
  replace os := os.below hb34
  replace B := B.trans (hb34.mono B.size)
  clear hal hb34 b
  go_upto_region 4 with (fail)
  refine wp_gen (fun Wv => Bx Wv (w4.heap.size) (25) (#[.int .u64 a.toNat, .int .u64 b.toNat]) ∧ Below w4.heap.size w4 Wv) ⟨((Bx.at_ (by simp))), ((Below.refl _ w4).alloc (by simp <;> omega) _)⟩ ?_
  rintro wa1 ⟨g4, b⟩
  replace ox := ox.below b; replace os := os.below b; replace B := B.trans (b.mono B.size); clear b
  have c_g4 := g4.cell; have f_g4 := g4.free; have a_g4 := fun o => (g4.alloc o).cell; have d_g4 := fun o o2 => ((g4.alloc o).alloc o2).cell; have e_g4 := fun o => (g4.alloc o).free
  obtain ⟨d1, sl1, cut1⟩ := own_cut2 (P := Try.prog) ox Try.underlying22 one_u64 (lo := 0) (hi := 8) (by omega) (by rw [HL0.out]; omega)
  have sl1' : ∀ W, (Instr.sliceAt 22 x (some (.int .i64 0)) (some (.int .i64 8)) none).run Try.prog W = .ok d1 W := sl1
  clear sl1
  go_wp2_with fail
  obtain ⟨w6, x6, hrun, o6, B6, g6⟩ := copyW (l := l0) (m := ws) (a := 0) ox cut1 os.rd (by rw [HWS.out]) (by rw [HL0.out]; omega) B (Nat.le_refl _)
  rw [hrun, Result.andThen_ok]
  have g4' := g4.grown g6 (own_not_bx ox g4 (by decide))
  have os' := os.kept g6 hne
  clear hrun cut1 sl1' ox os g4 c_g4 f_g4 a_g4 d_g4 e_g4 B g6
  have hlen1 : (putW l0 0 ws).length = 256 := by rw [putW_len, HL0.out]
  obtain ⟨d2, sl2, cut2⟩ := own_cut2 (P := Try.prog) o6 Try.underlying22 one_u64 (lo := 8) (hi := 16) (by omega) (by rw [hlen1]; omega)
  have sl2' : ∀ W, (Instr.sliceAt 22 x (some (.int .i64 8)) (some (.int .i64 16)) none).run Try.prog W = .ok d2 W := sl2
  clear sl2
  go_wp2_with fail
  obtain ⟨w7, x7, hrun, o7, B7, g7⟩ := copyW (l := putW l0 0 ws) (m := ws) (a := 8) o6 cut2 os'.rd (by rw [HWS.out]) (by rw [hlen1]; omega) B6 (Nat.le_refl _)
  rw [hrun, Result.andThen_ok]
  have g5' := g4'.grown g7 (own_not_bx o6 g4' (by decide))
  clear hrun cut2 sl2' o6 os' g4' B6 g7
  have hlen2 : (putW (putW l0 0 ws) 8 ws).length = 256 := by rw [putW_len, hlen1]
  obtain ⟨d3, sl3, cut3⟩ := own_cut2 (P := Try.prog) o7 Try.underlying22 one_u64 (lo := 96) (hi := 98) (by omega) (by rw [hlen2]; omega)
  have sl3' : ∀ W, (Instr.sliceAt 22 x (some (.int .i64 96)) (some (.int .i64 98)) none).run Try.prog W = .ok d3 W := sl3
  clear sl3
  go_upto_region 6 with (fail)
  refine wp_region_qtail 3 (by kernel_rfl) (by kernel_rfl) ?_
  simp only [List.take_succ_cons, List.take_zero, List.drop_succ_cons, List.drop_zero]
  iterate 3 (go_big_quiet_step (fail))
  refine wpQuiet_nil ?_
  go_wp2_with fail
  have o7d : OwnW w7.drew w.heap.size 24 x (putW (putW l0 0 ws) 8 ws) := o7
  have g5d : Bx w7.drew w4.heap.size 25 #[.int .u64 a.toNat, .int .u64 b.toNat] := g5'
  obtain ⟨w8, x8, hrun, o8, B8, g8⟩ := copyW (l := putW (putW l0 0 ws) 8 ws) (m := [a, b]) (a := 96) o7d cut3 (arr_words g5d) rfl (by rw [hlen2]; omega) B7.drew (Nat.le_refl _)
  rw [hrun, Result.andThen_ok]
  clear hrun cut3 sl3' o7 o7d g5d g5' B7 g8
  have hlen3 : (putW (putW (putW l0 0 ws) 8 ws) 96 [a, b]).length = 256 := by rw [putW_len, hlen2]
  have HR := Lib.hid (show OwnW w8 w.heap.size 24 x ex22 ∧ Below w.heap.size w w8 from ⟨by rw [HX.out]; exact o8, B8⟩)
  clear o8 B8 hlen3 hlen2 hlen1
  go_wp2
  go_ret
  exact ⟨_, rfl, HR.out⟩
set_option maxRecDepth 100000 in
set_option maxHeartbeats 4000000 in
theorem alive22_any (w : World) : Calls Try.prog 25 #[] w fun e w' => e = .returned (.bool true) ∧ Below w.heap.size w w' := by
  have B : Below w.heap.size w w := Below.refl _ _
  have EX := Lib.hid (fun w => example22_any w)
  obtain ⟨l, hl⟩ : ∃ l, l = ex22 := ⟨_, rfl⟩
  obtain ⟨f1, f2, f3, E, f4, f5, f6⟩ := ex22_change
  rw [← hl] at EX f1 f2 f3 f4
  have CH := Lib.hid (fun v w h => Change_any v l 0 E 0 1 0 f4.symm f2.symm f3.symm f1.symm w h)
  obtain ⟨fw, hfw⟩ : ∃ x, x = freeW 124 := ⟨_, rfl⟩
  rw [← hfw] at f6
  have OT := Lib.hid (fun w => OfHR_any (freeB 124) (by decide) fw hfw w)
  have hEl : E.length = 6 := by have := congrArg List.length f5; rw [List.length_map] at this; simpa using this
  have HE := Lib.hid f5; have HF := Lib.hid f6; have HEL := Lib.hid hEl
  have nq : ∀ W, (binOp .neq 35 (.agg #[.int .i64 0, .int .i64 1]) (.agg #[.int .i64 0, .int .i64 1])).run Try.prog W = .ok (.bool false) W := fun W => by simp [go_sem]
  clear hl f1 f2 f3 f4 f5 f6 hfw hEl
  go_enter Try.func25, Try.ntmps25
  go_wp2_with fail
  refine (EX.out _).mono ?_
  rintro e wa1 ⟨x0, rfl, o0, b⟩
  replace B := B.trans (b.mono B.size); clear b
  have q0 := o0.rd
  clear o0
  go_wp2_with fail
  refine (CH.out _ _ q0).mono ?_
  rintro e wa2 ⟨y, rfl, o1, b⟩
  replace q0 := q0.below b; replace B := B.trans (b.mono B.size); clear b
  have q1 := o1.rd
  clear o1 q0
  go_upto_region 2 with (fail)
  refine wp_gen (fun Wv => Bx Wv (wa2.heap.size) (35) (#[.int .i64 0, .int .i64 1]) ∧ Below wa2.heap.size wa2 Wv) ⟨((Bx.at_ (by simp))), ((Below.refl _ wa2).alloc (by simp <;> omega) _)⟩ ?_
  rintro wa3 ⟨g1, b⟩
  replace q1 := q1.below b; replace B := B.trans (b.mono B.size); clear b
  have c_g1 := g1.cell; have f_g1 := g1.free; have a_g1 := fun o => (g1.alloc o).cell; have d_g1 := fun o o2 => ((g1.alloc o).alloc o2).cell; have e_g1 := fun o => (g1.alloc o).free
  go_upto_region 3 with (fail)
  refine wp_gen (fun V => Ints V (.slice (some ⟨wa3.heap.size, 0, none⟩) 6 6) [112, 128, 129, 130, 131, 132] ∧ Ents V y E ∧ Bx V wa2.heap.size 35 #[.int .i64 0, .int .i64 1] ∧ Below w.heap.size w V) ⟨lit_rdN rfl (by omega), Rd.alloc q1 _, g1.alloc _, B.alloc B.size _⟩ ?_
  clear q1 g1 c_g1 f_g1 a_g1 d_g1 e_g1 B
  rintro va ⟨q2, q1, g1, B⟩
  have le := Rd.len q1 Try.underlying30
  rw [HEL.out] at le
  have le' : ∀ ty W, (Builtin.len_ #[30] ty #[y]).run Try.prog W = .ok (.int .i64 6) W := le
  clear le
  obtain ⟨b5, o5, a5, x5, i5, m4, m5, h5⟩ := q1.at_ (k := 5) (by rw [HEL.out]; omega)
  obtain rfl : x5 = fw := by
    have h1 := h5.out
    have h2 := HF.out
    rw [List.getElem?_map, h1] at h2
    injection h2
  have i5' : ∀ W, (Instr.indexAt 30 y (.int .i64 5)).run Try.prog W = .ok (.pointer (some ⟨b5, o5, none⟩)) W := i5
  clear i5 h5 m4
  refine wp_region_calm (by kernel_rfl) (by kernel_rfl) ?_
  try clear c_g1 f_g1 a_g1 d_g1 e_g1
  have c_g1 := fun x : Fut _ => (g1.below x.h).cell
  have c_m5 := fun x : Fut _ => cell_later x.h m5
  repeat (go_big_quiet_step (first | exact Fut.call (OT.out _) | exact Fut.same (OT.out _)))
  refine wpQuiet_nil ?_
  intro _ hw'
  obtain ⟨xq, hw''⟩ := hw'
  subst hw''
  clear c_g1; replace g1 := g1.below xq.h; have c_g1 := g1.cell; have f_g1 := g1.free; have a_g1 := fun o => (g1.alloc o).cell; have d_g1 := fun o o2 => ((g1.alloc o).alloc o2).cell; have e_g1 := fun o => (g1.alloc o).free
  clear c_m5; replace m5 := cell_later xq.h m5
  replace q1 := q1.below xq.h
  replace q2 := q2.below xq.h
  replace B := B.trans (xq.h.mono B.size)
  have HQ := Lib.hid (And.intro q2 (And.intro q1 B))
  clear m5 i5' q1 q2 B g1 c_g1 f_g1 a_g1 d_g1 e_g1 le' nq
  go_wp2
  go_loopg [5] 6 (fun g i wr => ∃ j : Nat, j ≤ 6 ∧ g = 6 - j ∧ i = .int .i64 j ∧ Hid (Ints wr (.slice (some ⟨wa3.heap.size, 0, none⟩) 6 6) [112, 128, 129, 130, 131, 132] ∧ Ents wr y E ∧ Below w.heap.size w wr))
  case atStart => exact ⟨0, by omega, by omega, rfl, HQ⟩
  case round =>
    obtain ⟨j, hj, rfl, rfl, hh⟩ := hrel
    clear HQ
    by_cases hlt : j < 6
    · obtain ⟨q2, q1, B⟩ := hh.out
      clear hh
      obtain ⟨b5, o5, a5, x9, i5, m4, m5, h5⟩ := q1.at_ (k := j) (by rw [HEL.out]; exact hlt)
      obtain ⟨xa, x, ixx, m6, hx⟩ := q2.at_ (P := Try.prog) Try.underlying91 one_int (k := j) hlt
      obtain rfl : x = a5 := by
        have h1 := h5.out
        have h2 := HE.out
        have h3 := hx.out
        rw [← h2, List.getElem?_map, h1] at h3
        injection h3 with h3
        exact h3.symm
      clear h5 hx m5
      go_wp2
      refine wp_region_calm (by kernel_rfl) (by kernel_rfl) ?_
      have c_m4 := fun x : Fut _ => cell_later x.h m4
      have c_m6 := fun x : Fut _ => cell_later x.h m6
      repeat (go_big_quiet_step (fail))
      refine wpQuiet_nil ?_
      intro _ hw'
      obtain ⟨xq, hw''⟩ := hw'
      subst hw''
      clear c_m4; replace m4 := cell_later xq.h m4
      clear c_m6; replace m6 := cell_later xq.h m6
      replace q1 := q1.below xq.h
      replace q2 := q2.below xq.h
      replace B := B.trans (xq.h.mono B.size)
      have HR := Lib.hid (And.intro q2 (And.intro q1 B))
      clear m4 m6 q1 q2 B i5 ixx
      go_wp2
      go_roundg (6 - (j + 1))
      case measure => omega
      case rel => exact ⟨j + 1, by omega, rfl, by go_num, HR⟩
    · obtain rfl : j = 6 := by omega
      have B := hh.out.2.2
      clear hh
      go_wp2
      go_ret
      exact ⟨rfl, B⟩
end Go.Proofs.Ytmbokdnndlnjkaa
