/- Contracts of the functions that the laws 'R' reach, part 23. No condition. -/
import Derived.Test.YtmbokdnndlnjkaaGreatMRv
set_option linter.unusedVariables false
set_option linter.unusedSimpArgs false
namespace Go.Proofs.YtmbokdnndlnjkaaGreat.L19
open L02 L07 L13 L14 L15 L16 L18 L20
/-- the words of an object of a type -/
def sizT (t : List UInt8) : Nat := 2 + (t.length + 1) / 2 * 2
def objH (p n q : Nat) : Hb := ⟨(p : Int), (n : Int), 1, (q : Int), false, 0⟩
def restH (p n c : Nat) : Hb := ⟨((p + n : Nat) : Int), ((c - n : Nat) : Int), 2, 0, false, 0⟩
/-- what an allocation writes from the extent's address on: the extent has c words, the object n -/
def newW (p n q c : Nat) : List UInt64 := L14.word (objH p n q) :: (List.replicate (n - 1) 0 ++ if c = n then [] else [L14.word (restH p n c)])
theorem newW_len {p n q c : Nat} (hn : 1 ≤ n) : (newW p n q c).length = n + if c = n then 0 else 1 := by
  unfold newW
  rw [List.length_cons, List.length_append, List.length_replicate]
  by_cases h : c = n
  · rw [if_pos h, if_pos h]; simp; omega
  · rw [if_neg h, if_neg h]; simp; omega
theorem putW_getD : ∀ (m l : List UInt64) (a i : Nat), a + m.length ≤ l.length → (putW l a m).getD i 0 = if a ≤ i ∧ i < a + m.length then m.getD (i - a) 0 else l.getD i 0
  | [], l, a, i, h => by rw [putW, if_neg (by rw [List.length_nil]; omega)]
  | x :: xs, l, a, i, h => by
    rw [List.length_cons] at h
    rw [putW, putW_getD xs _ _ _ (by rw [List.length_set]; omega), List.length_cons]
    by_cases h1 : a + 1 ≤ i ∧ i < a + 1 + xs.length
    · rw [if_pos h1, if_pos (by omega), show i - a = (i - (a + 1)) + 1 by omega, List.getD_cons_succ]
    · rw [if_neg h1]
      by_cases h2 : i = a
      · subst h2
        rw [getD_set_self (by omega), if_pos (by omega), Nat.sub_self]; rfl
      · rw [getD_set_ne (fun e => h2 e.symm), if_neg (by omega)]
theorem newW_get {l : List UInt64} {p n q c : Nat} (hn : 1 ≤ n) (hc : n ≤ c) (hl : p + c ≤ l.length) :
    (putW l p (newW p n q c)).getD p 0 = L14.word (objH p n q) ∧ (∀ i, p < i → i < p + n → (putW l p (newW p n q c)).getD i 0 = 0) ∧ (c ≠ n → (putW l p (newW p n q c)).getD (p + n) 0 = L14.word (restH p n c)) ∧
      ∀ i, i < p ∨ p + n < i ∨ (i = p + n ∧ c = n) → (putW l p (newW p n q c)).getD i 0 = l.getD i 0 := by
  have hlen := newW_len (p := p) (q := q) (c := c) hn
  have hle : p + (newW p n q c).length ≤ l.length := by rw [hlen]; split <;> omega
  refine ⟨?_, fun i h1 h2 => ?_, fun h1 => ?_, fun i h1 => ?_⟩
  · rw [putW_getD _ _ _ _ hle, if_pos ⟨Nat.le_refl _, by rw [hlen]; omega⟩, Nat.sub_self]; rfl
  · rw [putW_getD _ _ _ _ hle, if_pos ⟨by omega, by rw [hlen]; omega⟩]
    unfold newW
    rw [show i - p = (i - p - 1) + 1 by omega, List.getD_cons_succ, List.getD_eq_getElem?_getD, List.getElem?_append_left (by rw [List.length_replicate]; omega), List.getElem?_replicate, if_pos (by omega)]; rfl
  · rw [putW_getD _ _ _ _ hle, if_pos ⟨by omega, by rw [hlen, if_neg h1]; omega⟩]
    unfold newW
    rw [if_neg h1, show p + n - p = (n - 1) + 1 by omega, List.getD_cons_succ, List.getD_eq_getElem?_getD, List.getElem?_append_right (by rw [List.length_replicate]; omega), List.length_replicate, Nat.sub_self]; rfl
  · rw [putW_getD _ _ _ _ hle, if_neg]
    rw [hlen]
    rintro ⟨h2, h3⟩
    split at h3 <;> omega
theorem adj_obj {P S : List Hb} {b o : Hb} {R : List Hb} (hna : ¬ Adj (P ++ ([b] ++ S))) (hb : b.kind = 2) (ho : o.kind = 1) (hR : R = [] ∨ ∃ r, R = [r]) : ¬ Adj (P ++ (([o] ++ R) ++ S)) := by
  rw [adj_app, adj_app] at hna
  simp only [not_or] at hna
  obtain ⟨n1, ⟨-, n2, n3⟩, -⟩ := hna
  have hS : ¬ HeadF S := fun h => n3 ⟨⟨[], b, rfl, hb⟩, h⟩
  rw [adj_app, adj_app]
  rintro (h | (h | h | ⟨h1, h2⟩) | ⟨h1, h2⟩)
  · exact n1 h
  · rcases hR with rfl | ⟨r, rfl⟩
    · exact h
    · rcases h with h | h
      · omega
      · exact h
  · exact n2 h
  · exact hS h2
  · rw [List.append_assoc, List.cons_append, headF_cons] at h2
    omega
/-- an object of a type put into a free extent -/
theorem seen_alloc {l l' : List UInt64} (h : Rt l) {P S : List Hb} {b : Hb} {p q n : Nat} {t : List UInt8} (hb : allL l = P ++ (b :: S)) (hk : b.kind = 2) (hp : b.at_ = p) (hT : (T19 l)[q]? = some t) (hn : n = sizT t) (hle : (n : Int) ≤ b.size) (hl' : l' = putW l p (newW p n q b.size.toNat)) :
    Rt l' ∧ (∃ R, (R = [] ∧ b.size = n ∨ R = [{ restH p n b.size.toNat with next := l'.getD (p + n + 1) 0 }] ∧ b.size ≠ n) ∧ allL l' = P ++ (([objH p n q] ++ R) ++ S)) ∧ T19 l' = T19 l ∧ slots l' = slots l ∧ O19 l = objs P ++ objs S ∧ O19 l' = objs P ++ objH p n q :: objs S ∧ l'.length = l.length ∧
      (∀ a : Int, IsObj (O19 l) a → a ≠ p) ∧ (∀ c ∈ O19 l, ∀ j, j < (kindsB (T19 l) c).length → fw l' c j = fw l c j) ∧ (∀ j, j ≤ t.length → (t.length % 2 = 0 → j < t.length) → fw l' (objH p n q) j = 0) ∧ 128 ≤ p ∧ (p : Int) + b.size ≤ l.length ∧ (O19 l).length < 960 := by
  have hTk := T19_ok h.ty
  have hq8 : q < 8 := by have := (List.getElem?_eq_some_iff.1 hT).1; omega
  have ht8 : t.length ≤ 8 := (kErr_ok (hTk.2 t (List.mem_of_getElem? hT))).1
  obtain ⟨p', q', hc⟩ := Cut.of h.al (P := P) (M := [b]) (S := S) hb
  obtain ⟨o1, o2, o3⟩ := hc.s2.one
  have hpp : p' = p := by omega
  subst hpp
  have b1 := hc.s1.le
  have b2 := hc.s2.le
  have hbd := o3.bounds
  obtain ⟨c, hcc⟩ : ∃ c, c = b.size.toNat := ⟨_, rfl⟩
  have hcs : b.size = c := by omega
  have hnz : 2 ≤ n ∧ n ≤ 10 ∧ n % 2 = 0 := by rw [hn]; unfold sizT; omega
  obtain ⟨w1, w2, w3, w4⟩ := newW_get (l := l) (p := p') (n := n) (q := q) (c := c) (by omega) (by omega) (by omega)
  rw [← hcc, ] at hl'
  rw [← hl'] at w1 w2 w3 w4
  have hlen : l'.length = l.length := by rw [hl', putW_len]
  have f : Front l l' := ⟨hlen, by
    rw [hl', putW_eq _ _ _ (by rw [newW_len (by omega)]; split <;> omega), List.take_append, List.length_take, Nat.min_eq_left (by omega), show 128 - p' = 0 by omega, List.take_take, Nat.min_eq_left b1.1]; simp⟩
  have hokO : BkOk (objH p' n q) := by
    refine ⟨⟨?_, ?_⟩, .inl ⟨rfl, ⟨?_, ?_⟩, ?_⟩⟩
    · show (2 : Int) ≤ (n : Int); omega
    · show (n : Int) % 2 = 0; omega
    · show (0 : Int) ≤ (q : Int); omega
    · show (q : Int) < 8; omega
    · show (n : Int) ≤ 10; omega
  have segO : Seg l' p' [objH p' n q] (p' + n) := Seg.put (b := objH p' n q) hokO w1 rfl (by show (0 : UInt64) = _; rw [w2 (p' + 1) (by omega) (by omega)]) (by show ((p' + n : Nat) : Int) = p' + (n : Int); omega) (by omega)
  obtain ⟨R, hR, hR1, segR⟩ : ∃ R, (R = [] ∧ b.size = n ∨ R = [{ restH p' n c with next := l'.getD (p' + n + 1) 0 }] ∧ b.size ≠ n) ∧ (R = [] ∨ ∃ r, R = [r]) ∧ Seg l' (p' + n) R q' := by
    by_cases e : c = n
    · refine ⟨[], .inl ⟨rfl, by omega⟩, .inl rfl, ?_⟩
      have : q' = p' + n := by omega
      rw [this]; exact .nil (by omega)
    · refine ⟨_, .inr ⟨rfl, by omega⟩, .inr ⟨_, rfl⟩, ?_⟩
      have hok : BkOk (restH p' n c) := by
        have := h.sz.2.1
        refine ⟨⟨?_, ?_⟩, .inr ⟨rfl, rfl, rfl, ?_⟩⟩
        · show (2 : Int) ≤ ((c - n : Nat) : Int); omega
        · show ((c - n : Nat) : Int) % 2 = 0; omega
        · show ((c - n : Nat) : Int) ≤ 1920; omega
      exact Seg.put (b := { restH p' n c with next := l'.getD (p' + n + 1) 0 }) hok (by rw [w3 e]; rfl) rfl rfl (by show (q' : Int) = ((p' + n : Nat) : Int) + ((c - n : Nat) : Int); omega) (by omega)
  obtain ⟨a1, a2, a3⟩ := hc.new (N := [objH p' n q] ++ R) h.sz hlen (fun j h1 h2 => w4 j (by
    rcases h2 with h2 | h2
    · exact .inl h2
    · right
      by_cases e : c = n
      · by_cases e2 : j = p' + n
        · exact .inr ⟨e2, e⟩
        · left; omega
      · left; omega)) (segO.append segR) (adj_obj hc.na hk rfl hR1)
  have eO : O19 l = objs P ++ objs S := by
    unfold O19
    rw [hc.eq, objs_app, objs_app]
    have : objs [b] = [] := List.filter_eq_nil_iff.2 fun x hx => by rw [List.mem_singleton] at hx; subst hx; simp; omega
    rw [this]; simp
  have eO' : O19 l' = objs P ++ objH p' n q :: objs S := by
    unfold O19
    rw [a2, objs_app, objs_app, objs_app]
    have z1 : objs [objH p' n q] = [objH p' n q] := rfl
    have z2 : objs R = [] := by
      rcases hR with ⟨rfl, -⟩ | ⟨rfl, -⟩ <;> rfl
    rw [z1, z2]; simp
  have hside : ∀ c' ∈ O19 l, c'.at_ + c'.size ≤ p' ∨ (q' : Int) ≤ c'.at_ := fun c' hcm => by
    rw [eO] at hcm
    rcases List.mem_append.1 hcm with h3 | h3
    · left; exact (hc.s1.bound (objs_mem.1 h3).1).2.1
    · right; exact (hc.s3.bound (objs_mem.1 h3).1).1
  have hfw : ∀ c' ∈ O19 l, ∀ j, j ≤ (kindsB (T19 l) c').length → ((kindsB (T19 l) c').length % 2 = 0 → j < (kindsB (T19 l) c').length) → fw l' c' j = fw l c' j := fun c' hcm j h1 h2 => by
    obtain ⟨a, g1, g2, g3, g4, g5, g6, _⟩ := objs_at h.al hcm
    have hsz := (h.good 8 (by omega) (by omega) c' hcm).2
    have : (kindsB (T19 l) c').length % 2 = 0 ∨ (kindsB (T19 l) c').length % 2 = 1 := by omega
    refine w4 _ ?_
    rcases hside c' hcm with h3 | h3
    · left; omega
    · right; left; omega
  have hkO : kindsB (T19 l) (objH p' n q) = t := by
    unfold kindsB
    show (T19 l).getD (q : Int).toNat [] = t
    rw [Int.toNat_natCast, List.getD_eq_getElem?_getD, hT]; rfl
  have hfO : ∀ j, j ≤ t.length → (t.length % 2 = 0 → j < t.length) → fw l' (objH p' n q) j = 0 := fun j h1 h2 => by
    have : t.length % 2 = 0 ∨ t.length % 2 = 1 := by omega
    have hnn : n = 2 + (t.length + 1) / 2 * 2 := hn
    unfold fw
    show l'.getD ((p' : Int).toNat + 2 + j) 0 = 0
    rw [Int.toNat_natCast]
    exact w2 _ (by omega) (by omega)
  have hob : ∀ a : Int, IsObj (O19 l) a → IsObj (O19 l') a := fun a ⟨c', hcm, e⟩ => by
    rw [eO] at hcm
    refine ⟨c', ?_, e⟩
    rw [eO']
    rcases List.mem_append.1 hcm with h3 | h3
    · exact List.mem_append.2 (.inl h3)
    · exact List.mem_append.2 (.inr (List.mem_cons_of_mem _ h3))
  have hne : ∀ a : Int, IsObj (O19 l) a → a ≠ p' := fun a ⟨c', hcm, e⟩ => by
    have hb2 : 2 ≤ c'.size := by
      obtain ⟨a, g1, g2, g3, g4, g5, g6, g7, g8, _⟩ := objs_at h.al hcm
      omega
    rcases hside c' hcm with h3 | h3
    · omega
    · omega
  have rt' : Rt l' := f.rt h a1 (fun c' hcm => by
    rw [eO'] at hcm
    have hcase : c' ∈ O19 l ∨ c' = objH p' n q := by
      rw [eO]
      rcases List.mem_append.1 hcm with h3 | h3
      · exact .inl (List.mem_append.2 (.inl h3))
      · rcases List.mem_cons.1 h3 with h4 | h4
        · exact .inr h4
        · exact .inl (List.mem_append.2 (.inr h4))
    rcases hcase with hcl | rfl
    · refine ⟨h.good 7 (by omega) (by omega) c' hcl, h.good 8 (by omega) (by omega) c' hcl, ?_, ?_, ?_⟩
      · have h9 : Padded l (T19 l) c' := h.good 9 (by omega) (by omega) c' hcl
        by_cases h2 : (kindsB (T19 l) c').length % 2 = 0
        · exact .inl h2
        · refine .inr ?_
          rw [hfw c' hcl _ (Nat.le_refl _) (fun e => absurd e h2)]
          exact h9.resolve_left h2
      · intro j hj hj2
        rw [hfw c' hcl j (by omega) (fun _ => hj)]
        exact h.good 10 (by omega) (by omega) c' hcl j hj hj2
      · intro j hj hj2
        rw [hfw c' hcl j (by omega) (fun _ => hj)]
        have : fw l c' j = 0 ∨ IsObj (O19 l) (fw l c' j).toNat := h.good 11 (by omega) (by omega) c' hcl j hj hj2
        exact this.imp id fun h3 => hob _ h3
    · refine ⟨⟨rfl, rfl⟩, ⟨?_, ?_⟩, ?_, ?_, ?_⟩
      · show (q : Int) < _
        have := (List.getElem?_eq_some_iff.1 hT).1; omega
      · rw [hkO]; show (n : Int) = _; rw [hn]; unfold sizT; omega
      · unfold Padded; rw [hkO]
        by_cases h2 : t.length % 2 = 0
        · exact .inl h2
        · exact .inr (hfO _ (Nat.le_refl _) (fun e => absurd e h2))
      · intro j hj hj2
        rw [hkO] at hj
        rw [hfO j (by omega) (fun _ => hj)]; decide
      · intro j hj hj2
        rw [hkO] at hj
        exact .inl (hfO j (by omega) (fun _ => hj))) (fun s hs hu => hob _ (h.slots s hs hu))
  refine ⟨rt', ⟨R, by rw [← hcc]; exact hR, a2⟩, f.types, f.open_.2, eO, eO', hlen, hne, fun c' hcm j hj => hfw c' hcm j (by omega) (fun _ => hj), hfO, b1.1, by omega, ?_⟩
  have h2 := chain_len (chain_iff.1 (parsed_ok.1 (allErr_ok h.al).2).1)
  have hsz := h.sz.2.1
  have e1 : (O19 l).length ≤ P.length + S.length := by rw [eO, List.length_append]; exact Nat.add_le_add (List.length_filter_le _ _) (List.length_filter_le _ _)
  rw [hb, List.length_append, List.length_cons] at h2
  omega
end Go.Proofs.YtmbokdnndlnjkaaGreat.L19
namespace Go.Proofs.YtmbokdnndlnjkaaGreat.L20
open L02 L13 L18
/-- the numbers behind an object that comes in at f, the last of N + 1 objects -/
def insN (N f : Nat) : List Int := ((List.range N).map fun n => if n < f then (n : Int) else (n : Int) + 1) ++ [(f : Int)]
theorem insN_len (N f : Nat) : (insN N f).length = N + 1 := by simp [insN]
theorem insN_get {N f n : Nat} (h : n < N) : (insN N f)[n]? = some (if n < f then (n : Int) else (n : Int) + 1) := by
  rw [insN, List.getElem?_append_left (by simpa using h), List.getElem?_map, List.getElem?_range h]; rfl
theorem insN_last (N f : Nat) : (insN N f)[N]? = some (f : Int) := by
  rw [insN, List.getElem?_append_right (by simp)]; simp
/-- which object gets a number -/
def inv (N f w : Nat) : Nat := if w < f then w else if w = f then N else w - 1
theorem numN_ins (m : Mo) {N f w : Nat} (hf : f ≤ N) (hw : w < N + 1) : numN m (insN N f) w (N + 1) = [numO m (insN N f) (ob m (inv N f w))] := by
  have e : (List.range (N + 1)).filter (fun n => decide ((insN N f).getD n (-2) = (w : Int))) = (List.range (N + 1)).filter (fun n => decide (n = inv N f w)) := by
    refine List.filter_congr fun n hn => ?_
    have hn := List.mem_range.1 hn
    rw [List.getD_eq_getElem?_getD]
    congr 1
    rw [eq_iff_iff]
    unfold inv
    by_cases h1 : n < N
    · rw [insN_get h1, Option.getD_some]
      by_cases h2 : n < f
      · rw [if_pos h2]; split
        · omega
        · split <;> omega
      · rw [if_neg h2]; split
        · omega
        · split <;> omega
    · have : n = N := by omega
      subst this
      rw [insN_last, Option.getD_some]
      split
      · omega
      · split <;> omega
  rw [numN, e, range_filter, if_pos (by unfold inv; split; omega; split <;> omega)]; rfl
theorem numJ_ins (m : Mo) {N f : Nat} (hf : f ≤ N) : ∀ j, j ≤ N + 1 → numJ m (insN N f) j = (List.range j).map fun w => numO m (insN N f) (ob m (inv N f w))
  | 0, _ => by simp [numJ]
  | j + 1, hj => by
    rw [numJ_succ, numJ_ins m hf j (by omega), insN_len, numN_ins m hf (by omega), List.range_succ, List.map_append]; rfl
end Go.Proofs.YtmbokdnndlnjkaaGreat.L20
namespace Go.Proofs.YtmbokdnndlnjkaaGreat.L19
open L02 L07 L13 L14 L15 L16 L18 L20
/-- the model behind an allocation, with its handle's slot -/
theorem seen_alloc2 {l l' : List UInt64} (h : Rt l) {P S : List Hb} {b : Hb} {p q n k : Nat} {t : List UInt8} {g0 : Int} (hb : allL l = P ++ (b :: S)) (hk : b.kind = 2) (hp : b.at_ = p) (hT : (T19 l)[q]? = some t) (hn : n = sizT t) (hle : (n : Int) ≤ b.size)
    (hk16 : k < 16) (hnx : next (slots l) = some k) (hs : (slots l)[k]? = some ⟨g0, false, 0⟩) (hl' : l' = (putW l p (newW p n q b.size.toNat)).set (112 + k) (pk ⟨g0 + 1, true, p⟩)) :
    allE (seen l) q = 0 ∧ allS (seen l) q = k ∧ allG (seen l) q = g0 + 1 ∧ Rt l' ∧ seen l' = numM (allM (seen l) q) (insN (O19 l).length (objs P).length) ∧ slots l' = (slots l).set k ⟨g0 + 1, true, p⟩ ∧
      (∃ R, (R = [] ∧ b.size = n ∨ R = [{ restH p n b.size.toNat with next := l'.getD (p + n + 1) 0 }] ∧ b.size ≠ n) ∧ allL l' = P ++ (([objH p n q] ++ R) ++ S)) ∧ T19 l' = T19 l ∧ O19 l = objs P ++ objs S ∧ O19 l' = objs P ++ objH p n q :: objs S := by
  obtain ⟨l1, hl1⟩ : ∃ l1, l1 = putW l p (newW p n q b.size.toNat) := ⟨_, rfl⟩
  rw [← hl1] at hl'
  obtain ⟨r1, ⟨R, hR, r2⟩, r3, r4, r5, r6, r7, r8, r9, r10, r11, r12, r13⟩ := seen_alloc h hb hk hp hT hn hle hl1
  have hqT := (List.getElem?_eq_some_iff.1 hT).1
  have hE : allE (seen l) q = 0 := by
    unfold allE
    rw [if_pos (seen_chk h), if_pos ⟨by omega, by show (q : Int) < (T19 l).length; omega⟩]
    have h1 : next (seen l).slots = some k := by rw [← hnx]; exact next_map _ _
    rw [h1, if_neg (by simp), if_neg]
    show ¬ ((O19 l).map _).length = 960
    rw [List.length_map]; omega
  obtain ⟨k', g', ad⟩ := Alld.of hE
  have hkk : allS (seen l) q = k := by
    rw [allS, if_pos hE]
    have h1 : next (seen l).slots = some k := by rw [← hnx]; exact next_map _ _
    rw [h1]; rfl
  have e1 : k' = k := by have := ad.hS; rw [hkk] at this; omega
  subst e1
  have hsl : (seen l).slots[k']? = some ⟨g0, false, 0⟩ := by
    show ((slots l).map (slOf (O19 l)))[k']? = _
    rw [List.getElem?_map, hs]; rfl
  have e2 : g' = g0 := by have := ad.hs; rw [hsl] at this; injection this with this; injection this with this _ _; exact this.symm
  subst e2
  have hg := ad.hg
  have hbp : (p : Int) < 2048 := by
    have := h.sz.2.1
    have hbm : b ∈ allL l := by rw [hb]; simp
    obtain ⟨a, a1, a2, a3, a4, a5⟩ := all_mem h.al hbm
    have hz := szN_ge a3
    have : b.at_ = a := by rw [a4]; rfl
    omega
  have hr : Right ⟨g' + 1, true, (p : Int)⟩ := ⟨by show 0 ≤ g' + 1; omega, by show g' + 1 ≤ 2147483647; omega, fun e => (by cases e), fun _ => ⟨by show 0 < g' + 1; omega, by show (128 : Int) ≤ p; omega, hbp⟩⟩
  have hobj : IsObj (O19 l1) (p : Int) := ⟨objH p n q, by rw [r6]; simp, rfl⟩
  obtain ⟨s1, s2, s3, s4, s5⟩ := seen_slot_set r1 hk16 hr (fun _ => hobj)
  rw [← hl'] at s1 s2 s3 s4 s5
  have hss : slots l' = (slots l).set k' ⟨g' + 1, true, (p : Int)⟩ := by
    rw [hl', slots_set _ hk16, spl_pk hr, r4]
  have hfw' : ∀ i, p + n + 1 = i → l'.getD i 0 = l1.getD i 0 := fun i hi => by rw [hl', getD_set_ne (by omega)]
  refine ⟨hE, hkk, by rw [ad.hG], s1, ?_, hss, ⟨R, by rw [hfw' _ rfl]; exact hR, by rw [s5, r2]⟩, by rw [s4, r3], r5, by rw [s3, r6]⟩
  rw [s2]
  obtain ⟨F, hF⟩ : ∃ F, F = (objs P).length := ⟨_, rfl⟩
  obtain ⟨N, hN⟩ : ∃ N, N = (O19 l).length := ⟨_, rfl⟩
  have hFN : F ≤ N := by rw [hF, hN, r5, List.length_append]; omega
  rw [← hF, ← hN]
  have hidx : ∀ (a : Int) (j : Nat), idx (O19 l) a = some j → idx (O19 l1) a = some (if j < F then j else j + 1) ∧ j < N := fun a j h1 => by
    have ho : IsObj (O19 l) a := by
      refine Decidable.not_not.1 fun h2 => ?_
      rw [idx_none.2 h2] at h1; cases h1
    have h2 := r8 a ho
    obtain ⟨c, hc, _⟩ := idx_some h1
    refine ⟨?_, by rw [hN]; exact (List.getElem?_eq_some_iff.1 hc).1⟩
    rw [r5] at h1
    rw [r6, hF]
    exact idx_ins h1 (fun e => h2 e.symm)
  have hidp : idx (O19 l1) (p : Int) = some F := by
    have hm : (O19 l1)[F]? = some (objH p n q) := by rw [r6, hF, List.getElem?_append_right (Nat.le_refl _), Nat.sub_self]; rfl
    exact idx_at r1.al (b := objH p n q) hm
  have hlen1 : (seen l).objs.length = N := by show ((O19 l).map _).length = N; rw [List.length_map, hN]
  rw [ad.hM]
  unfold numM
  rw [insN_len, numJ_ins _ hFN _ (Nat.le_refl _)]
  have hkO : kindsB (T19 l) (objH p n q) = t := by
    unfold kindsB
    show (T19 l).getD (q : Int).toNat [] = t
    rw [Int.toNat_natCast, List.getD_eq_getElem?_getD, hT]; rfl
  have hk2 : ∀ c ∈ O19 l, c ∈ O19 l1 := fun c hc => by
    rw [r5] at hc; rw [r6]
    rcases List.mem_append.1 hc with h1 | h1
    · exact List.mem_append.2 (.inl h1)
    · exact List.mem_append.2 (.inr (List.mem_cons_of_mem _ h1))
  -- an object that was there
  have hold : ∀ (M : Mo), M.types = T19 l → ∀ c ∈ O19 l, obOf l1 (T19 l) (O19 l1) c = numO M (insN N F) (obOf l (T19 l) (O19 l) c) := fun M hM c hc => by
    unfold obOf numO
    rw [hM]
    congr 1
    show obFs l1 (T19 l) (O19 l1) c = (List.range (obFs l (T19 l) (O19 l) c).length).map fun j => numV (insN N F) ((kindsB (T19 l) c).getD j 0) ((obFs l (T19 l) (O19 l) c).getD j 0)
    rw [obFs_len]
    refine List.ext_getElem? fun j => ?_
    by_cases hj : j < (kindsB (T19 l) c).length
    · rw [obFs_get hj, List.getElem?_map, List.getElem?_range hj, Option.map_some, List.getD_eq_getElem?_getD (l := obFs _ _ _ _), obFs_get hj, Option.getD_some, r9 c hc j hj]
      congr 1
      by_cases h3 : ((kindsB (T19 l) c).getD j 0).toNat = 3
      · rw [fldV_ref h3, fldV_ref h3]
        have h11 : fw l c j = 0 ∨ IsObj (O19 l) (fw l c j).toNat := h.good 11 (by omega) (by omega) c hc j hj h3
        rcases h11 with h0 | h0
        · rw [h0, refV_none (no_zero h.al (objs_low h.al)), refV_none (no_zero r1.al (objs_low r1.al)), numV_other (by simp)]
        · obtain ⟨x, y, g1, g2, g3, g4⟩ := idx_of h0
          obtain ⟨g5, g6⟩ := hidx _ _ g1
          rw [refV_some g1, refV_some g5]
          have hx : (UInt64.ofNat (x + 1)).toNat = x + 1 := by rw [UInt64.toNat_ofNat', Nat.mod_eq_of_lt (by omega)]
          have hv : numV (insN N F) ((kindsB (T19 l) c).getD j 0) (UInt64.ofNat (x + 1)) = UInt64.ofNat ((if x < F then (x : Int) else (x : Int) + 1) + 1).toNat := by
            rw [numV, if_pos ⟨h3, by omega⟩, hx, Nat.add_sub_cancel, List.getD_eq_getElem?_getD, insN_get g6, Option.getD_some]
          rw [hv]
          congr 1
          split <;> omega
      · rw [fldV_not h3, fldV_not h3, numV_other (fun e => h3 e.1)]
    · rw [List.getElem?_eq_none (by rw [obFs_len]; omega), List.getElem?_eq_none (by simp; omega)]
  -- the new one
  have hnew : ∀ (M : Mo), M.types = T19 l → obOf l1 (T19 l) (O19 l1) (objH p n q) = numO M (insN N F) (newO (seen l) q) := fun M hM => by
    have hg : (seen l).types.getD (q : Int).toNat [] = t := by show (T19 l).getD _ _ = t; rw [Int.toNat_natCast, List.getD_eq_getElem?_getD, hT]; rfl
    unfold obOf numO newO
    rw [hg, hM]
    congr 1
    refine List.ext_getElem? fun j => ?_
    by_cases hj : j < t.length
    · rw [obFs_get (by rw [hkO]; exact hj), List.getElem?_map, List.getElem?_range (by rw [List.length_replicate]; exact hj), Option.map_some, r10 j (by omega) (fun _ => hj), zeros_get, numV_other (by simp)]
      congr 1
      by_cases h3 : ((kindsB (T19 l) (objH p n q)).getD j 0).toNat = 3
      · rw [fldV_ref h3, refV_none (no_zero r1.al (objs_low r1.al))]
      · rw [fldV_not h3]
    · rw [List.getElem?_eq_none (by rw [obFs_len, hkO]; omega), List.getElem?_eq_none (by simp; omega)]
  show Mo.mk (T19 l1) ((O19 l1).map (obOf l1 (T19 l1) (O19 l1))) (((slots l1).map (slOf (O19 l1))).set k' (slOf (O19 l1) ⟨g' + 1, true, p⟩)) = _
  rw [r3, r4]
  congr 1
  · refine List.ext_getElem? fun w => ?_
    by_cases hw : w < N + 1
    · rw [List.getElem?_map, List.getElem?_map, List.getElem?_range hw, Option.map_some]
      have hobA : ∀ i, i < N → ob ⟨(seen l).types, (seen l).objs ++ [newO (seen l) q], (seen l).slots.set k' ⟨g' + 1, true, (seen l).objs.length⟩⟩ i = obOf l (T19 l) (O19 l) ((O19 l).getD i .none) ∧ (O19 l).getD i .none ∈ O19 l ∧ (O19 l)[i]? = some ((O19 l).getD i .none) := fun i hi => by
        have hc : (O19 l)[i]? = some ((O19 l)[i]'(by omega)) := List.getElem?_eq_getElem _
        have hg : (O19 l).getD i .none = (O19 l)[i]'(by omega) := by rw [List.getD_eq_getElem?_getD, hc]; rfl
        rw [hg]
        refine ⟨?_, List.getElem_mem _, hc⟩
        unfold ob
        show ((seen l).objs ++ _).getD i _ = _
        rw [List.getD_eq_getElem?_getD, List.getElem?_append_left (by rw [hlen1]; exact hi)]
        show (((O19 l).map _)[i]?).getD _ = _
        rw [List.getElem?_map, hc]; rfl
      have hobN : ob ⟨(seen l).types, (seen l).objs ++ [newO (seen l) q], (seen l).slots.set k' ⟨g' + 1, true, (seen l).objs.length⟩⟩ N = newO (seen l) q := by
        unfold ob
        show ((seen l).objs ++ _).getD N _ = _
        rw [List.getD_eq_getElem?_getD, List.getElem?_append_right (by omega), hlen1, Nat.sub_self]; rfl
      unfold inv
      by_cases h1 : w < F
      · rw [if_pos h1]
        obtain ⟨z1, z2, z3⟩ := hobA w (by omega)
        rw [z1]
        have : (O19 l1)[w]? = some ((O19 l).getD w .none) := by
          rw [r5, List.getElem?_append_left (by omega)] at z3
          rw [r6, List.getElem?_append_left (by omega), z3, ← r5]
        rw [this, Option.map_some, hold ⟨(seen l).types, (seen l).objs ++ [newO (seen l) q], (seen l).slots.set k' ⟨g' + 1, true, (seen l).objs.length⟩⟩ rfl _ z2]
      · rw [if_neg h1]
        by_cases h2 : w = F
        · rw [if_pos h2, hobN]
          have : (O19 l1)[w]? = some (objH p n q) := by rw [r6, List.getElem?_append_right (by omega), show w - (objs P).length = 0 by omega]; rfl
          rw [this, Option.map_some, hnew ⟨(seen l).types, (seen l).objs ++ [newO (seen l) q], (seen l).slots.set k' ⟨g' + 1, true, (seen l).objs.length⟩⟩ rfl]
        · rw [if_neg h2]
          obtain ⟨z1, z2, z3⟩ := hobA (w - 1) (by omega)
          rw [z1]
          have : (O19 l1)[w]? = some ((O19 l).getD (w - 1) .none) := by
            rw [r5, List.getElem?_append_right (by omega)] at z3
            rw [r6, List.getElem?_append_right (by omega), show w - (objs P).length = (w - 1 - (objs P).length) + 1 by omega, List.getElem?_cons_succ, z3, ← r5]
          rw [this, Option.map_some, hold ⟨(seen l).types, (seen l).objs ++ [newO (seen l) q], (seen l).slots.set k' ⟨g' + 1, true, (seen l).objs.length⟩⟩ rfl _ z2]
    · have hl1N : (O19 l1).length = N + 1 := by rw [r6, hN, r5, List.length_append, List.length_append, List.length_cons]; omega
      rw [List.getElem?_eq_none (by rw [List.length_map]; omega), List.getElem?_eq_none (by simp; omega)]
  · rw [hlen1, List.map_set]
    have e3 : slOf (O19 l1) ⟨g' + 1, true, (p : Int)⟩ = numS (insN N F) ⟨g' + 1, true, (N : Int)⟩ := by
      unfold slOf numS
      rw [if_pos rfl, if_pos rfl, hidp]
      show Sl.mk _ _ _ = Sl.mk _ _ _
      congr 1
      rw [Int.toNat_natCast, List.getD_eq_getElem?_getD, insN_last]; rfl
    rw [e3]
    congr 1
    show _ = ((slots l).map (slOf (O19 l))).map (numS (insN N F))
    rw [List.map_map]
    refine List.map_congr_left fun s hs' => ?_
    show slOf (O19 l1) s = numS (insN N F) (slOf (O19 l) s)
    unfold slOf numS
    by_cases hu : s.used = true
    · rw [if_pos hu, if_pos hu]
      obtain ⟨x, y, g1, g2, g3, g4⟩ := idx_of (h.slots s hs' hu)
      obtain ⟨g5, g6⟩ := hidx _ _ g1
      rw [g1, g5]
      show Sl.mk _ _ _ = _
      rw [if_pos rfl]
      show Sl.mk _ _ _ = Sl.mk _ _ _
      congr 1
      show _ = (insN N F).getD ((x : Int)).toNat 0
      rw [Int.toNat_natCast, List.getD_eq_getElem?_getD, insN_get g6, Option.getD_some]
      by_cases hxF : x < F
      · rw [if_pos hxF, if_pos hxF]
      · rw [if_neg hxF, if_neg hxF]; show ((x + 1 : Nat) : Int) = (x : Int) + 1; omega
    · rw [if_neg hu, if_neg hu, if_neg hu]
end Go.Proofs.YtmbokdnndlnjkaaGreat.L19
namespace Go.Proofs.YtmbokdnndlnjkaaGreat.L19
open L02 L07 L13 L14 L15 L16 L18 L20
/-- the class of an extent, one higher -/
def bl (b : Hb) : Nat := Lib.bitLen b.size.toNat
def betterB (n : Int) (b : Hb) (o : Option Hb) : Bool := decide (n ≤ b.size) && (match o with | none => true | some x => decide (bl b < bl x))
/-- the first extent of the least class that is large enough -/
def takesF (n : Int) : List Hb → Option Hb → Option Hb
  | [], o => o
  | b :: L, o => takesF n L (if betterB n b o = true then some b else o)
def takes (L : List Hb) (n : Int) : Option Hb := takesF n L none
def RightN (n : Int) : Prop := 2 ≤ n ∧ n ≤ 10 ∧ n % 2 = 0
instance (n : Int) : Decidable (RightN n) := inferInstanceAs (Decidable (_ ∧ _ ∧ _))
def fitE (l : List UInt64) (n : Int) : Int := if allErr l = 0 then (if RightN n then (if (takes (freeL l) n).isSome then 0 else 20) else 2) else allErr l
def fitB (l : List UInt64) (n : Int) : Hb := if fitE l n = 0 then (takes (freeL l) n).getD .none else .none
theorem takesF_some {n : Int} : ∀ {L : List Hb} {o : Option Hb} {b : Hb}, takesF n L o = some b → o = some b ∨ (b ∈ L ∧ n ≤ b.size)
  | [], o, b, h => .inl h
  | c :: L, o, b, h => by
    rw [takesF] at h
    rcases takesF_some h with h1 | h1
    · split at h1
      · rename_i hb
        injection h1 with h1
        subst h1
        unfold betterB at hb
        rw [Bool.and_eq_true, decide_eq_true_iff] at hb
        exact .inr ⟨List.mem_cons_self, hb.1⟩
      · exact .inl h1
    · exact .inr ⟨List.mem_cons_of_mem _ h1.1, h1.2⟩
theorem takes_some {L : List Hb} {n : Int} {b : Hb} (h : takes L n = some b) : b ∈ L ∧ n ≤ b.size := by
  rcases takesF_some h with h1 | h1
  · cases h1
  · exact h1
theorem takesF_step {n : Int} {L : List Hb} {j : Nat} {b : Hb} {o : Option Hb} (h : L[j]? = some b) : takesF n (L.drop j) o = takesF n (L.drop (j + 1)) (if betterB n b o = true then some b else o) := by
  have hj := (List.getElem?_eq_some_iff.1 h).1
  have e := (List.getElem?_eq_some_iff.1 h).2
  rw [List.drop_eq_getElem_cons hj, e, takesF]
/-- words one behind the other, as entries of a change -/
def runE : Int → List UInt64 → List (Int × UInt64)
  | _, [] => []
  | a, x :: xs => (a, x) :: runE (a + 1) xs
theorem runE_len : ∀ (xs : List UInt64) (a : Int), (runE a xs).length = xs.length
  | [], _ => rfl
  | x :: xs, a => by rw [runE, List.length_cons, List.length_cons, runE_len xs]
theorem runE_app : ∀ (xs ys : List UInt64) (a : Int), runE a (xs ++ ys) = runE a xs ++ runE (a + xs.length) ys
  | [], ys, a => by simp [runE]
  | x :: xs, ys, a => by
    rw [List.cons_append, runE, runE, runE_app xs ys, List.cons_append, List.length_cons]
    congr 3
    omega
theorem runE_put : ∀ (xs : List UInt64) (l : List UInt64) (p : Nat), p + xs.length ≤ l.length → (runE (p : Int) xs).foldl put1 l = putW l p xs
  | [], l, p, h => rfl
  | x :: xs, l, p, h => by
    rw [List.length_cons] at h
    rw [runE, List.foldl_cons, put1_set (by omega), show (p : Int) + 1 = ((p + 1 : Nat) : Int) by omega, runE_put xs _ _ (by rw [List.length_set]; omega), putW]
theorem putW_set : ∀ (xs l : List UInt64) (p j : Nat) (v : UInt64), j < p → putW (l.set j v) p xs = (putW l p xs).set j v
  | [], l, p, j, v, h => rfl
  | x :: xs, l, p, j, v, h => by
    rw [putW, putW, List.set_comm _ _ (by omega), putW_set xs _ _ _ _ (by omega)]
def tyI (l : List UInt64) (t : Int) : List UInt8 := (T19 l).getD t.toNat []
def aiE (l : List UInt64) (t : Int) : Int := if chk19 l = 0 then (if 0 ≤ t ∧ t < (T19 l).length then (if next (slots l) = none then 23 else if (takes (freeL l) (sizT (tyI l t))).isSome then 0 else 20) else 2) else chk19 l
def aiB (l : List UInt64) (t : Int) : Hb := (takes (freeL l) (sizT (tyI l t))).getD .none
def aiK (l : List UInt64) : Nat := (next (slots l)).getD 0
def aiS (l : List UInt64) (t : Int) : Int := if aiE l t = 0 then (aiK l : Int) else 0
def aiG (l : List UInt64) (t : Int) : Int := if aiE l t = 0 then ((slots l).getD (aiK l) .none).gen + 1 else 0
def aiL (l : List UInt64) (t : Int) : List (Int × UInt64) := if aiE l t = 0 then (112 + (aiK l : Int), pk ⟨((slots l).getD (aiK l) .none).gen + 1, true, (aiB l t).at_⟩) :: runE (aiB l t).at_ (newW (aiB l t).at_.toNat (sizT (tyI l t)) t.toNat (aiB l t).size.toNat) else []
/-- an allocation that is done -/
structure Al (l : List UInt64) (q k p n c : Nat) (g0 : Int) (b : Hb) (t : List UInt8) (P S : List Hb) (l' : List UInt64) : Prop where
  rt : Rt l
  hT : (T19 l)[q]? = some t
  hn : n = sizT t
  hn2 : 2 ≤ n ∧ n ≤ 10 ∧ n % 2 = 0
  hk : k < 16
  hnx : next (slots l) = some k
  hs : (slots l)[k]? = some ⟨g0, false, 0⟩
  hg : 0 ≤ g0 ∧ g0 < 2147483647
  htk : takes (freeL l) (n : Int) = some b
  hbk : b.kind = 2
  hat : b.at_ = p
  hsz : b.size = c
  hc : n ≤ c ∧ c ≤ 1920 ∧ c % 2 = 0
  hp : 128 ≤ p ∧ p + c ≤ l.length
  hok : BkOk b
  hL : allL l = P ++ (b :: S)
  hE : aiE l q = 0
  hS : aiS l q = k
  hG : aiG l q = g0 + 1
  hAL : aiL l q = (112 + (k : Int), pk ⟨g0 + 1, true, (p : Int)⟩) :: runE (p : Int) (newW p n q c)
  hl : l' = (putW l p (newW p n q c)).set (112 + k) (pk ⟨g0 + 1, true, (p : Int)⟩)
  hmd : made l (aiL l q) = l'
  hr : Right ⟨g0 + 1, true, (p : Int)⟩
theorem Al.of {l : List UInt64} {ti : Int} (h : aiE l ti = 0) : ∃ q k p n c g0 b t P S, ti = ((q : Nat) : Int) ∧ Al l q k p n c g0 b t P S (made l (aiL l ti)) := by
  have h0 := h
  unfold aiE at h
  split at h
  case isFalse hc => exact absurd h hc
  case isTrue hc =>
  split at h
  case isFalse ht => omega
  case isTrue ht =>
  split at h
  case isTrue hx => omega
  case isFalse hx =>
  split at h
  case isFalse hb => omega
  case isTrue hb =>
  have rt : Rt l := Rt.of hc
  obtain ⟨q, rfl⟩ := Int.eq_ofNat_of_zero_le ht.1
  have hq : q < (T19 l).length := by omega
  have hT : (T19 l)[q]? = some (T19 l)[q] := List.getElem?_eq_getElem hq
  obtain ⟨t, htt⟩ : ∃ t, t = (T19 l)[q] := ⟨_, rfl⟩
  rw [← htt] at hT
  have hty : tyI l (q : Int) = t := by unfold tyI; rw [Int.toNat_natCast, List.getD_eq_getElem?_getD, hT]; rfl
  obtain ⟨k, hk⟩ := Option.ne_none_iff_exists'.1 hx
  obtain ⟨_, ⟨s, hs, hu, hg1⟩, _⟩ := nextFrom_some hk
  rw [Nat.sub_zero] at hs
  have hk16 : k < 16 := by have := (List.getElem?_eq_some_iff.1 hs).1; rw [slots_len' rt.sl] at this; exact this
  have hsr := seen_slot rt (List.mem_of_getElem? hs)
  obtain ⟨g0, u, a0⟩ := s
  dsimp only at hu hg1
  subst hu
  obtain rfl : a0 = 0 := hsr.2.2.1 rfl
  have hg0 := hsr.1; have hg2 := hsr.2.1
  dsimp only at hg0 hg2
  obtain ⟨b, hb⟩ := Option.isSome_iff_exists.1 hb
  rw [hty] at hb
  obtain ⟨hbm, hbs⟩ := takes_some hb
  obtain ⟨hbL, hbk⟩ := free_mem.1 hbm
  obtain ⟨a, a1, a2, a3, a4, a5⟩ := all_mem rt.al hbL
  have hz := szN_ge a3
  have hok : BkOk b := by rw [a4]; exact stand_ok a3
  have hbd := hok.bounds
  have hat : b.at_ = a := by rw [a4]; rfl
  have hsz : b.size = szN l a := by rw [a4]; exact stand_size a3
  obtain ⟨P, S, hPS⟩ := List.append_of_mem hbL
  have ht8 : t.length ≤ 8 := (kErr_ok ((T19_ok rt.ty).2 t (List.mem_of_getElem? hT))).1
  have hn2 : 2 ≤ sizT t ∧ sizT t ≤ 10 ∧ sizT t % 2 = 0 := by unfold sizT; omega
  have hgd : (slots l).getD k .none = ⟨g0, false, 0⟩ := by rw [List.getD_eq_getElem?_getD, hs]; rfl
  have hB : aiB l (q : Int) = b := by unfold aiB; rw [hty, hb]; rfl
  have hK : aiK l = k := by unfold aiK; rw [hk]; rfl
  have hcz : szN l a % 2 = 0 := hz.2.2.1
  have hAL : aiL l q = (112 + (k : Int), pk ⟨g0 + 1, true, (a : Int)⟩) :: runE (a : Int) (newW a (sizT t) q (szN l a)) := by
    unfold aiL
    rw [if_pos h0, hB, hK, hgd, hat, hsz, hty, Int.toNat_natCast, Int.toNat_natCast, Int.toNat_natCast]
  have hsl := rt.sz.2.1
  have hnl : (newW a (sizT t) q (szN l a)).length ≤ szN l a := by
    rw [newW_len (by omega)]; split <;> omega
  have hmd : made l (aiL l q) = (putW l a (newW a (sizT t) q (szN l a))).set (112 + k) (pk ⟨g0 + 1, true, (a : Int)⟩) := by
    rw [hAL]
    unfold made
    rw [List.take_of_length_le (by rw [List.length_cons, runE_len, newW_len (by omega)]; split <;> omega), List.foldl_cons]
    have : put1 l (112 + (k : Int), pk ⟨g0 + 1, true, (a : Int)⟩) = l.set (112 + k) (pk ⟨g0 + 1, true, (a : Int)⟩) := by
      have := put1_set (l := l) (p := 112 + k) (y := pk ⟨g0 + 1, true, (a : Int)⟩) (by omega)
      rw [show ((112 + k : Nat) : Int) = 112 + (k : Int) by omega] at this
      exact this
    rw [this, runE_put _ _ _ (by rw [List.length_set]; omega), putW_set _ _ _ _ _ (by omega)]
  refine ⟨q, k, a, sizT t, szN l a, g0, b, t, P, S, rfl, rt, hT, rfl, hn2, hk16, hk, hs, by omega, hb, hbk, hat, hsz, ⟨by omega, by omega, hcz⟩, ⟨a1, by omega⟩, hok, hPS, h0, by rw [aiS, if_pos h0, hK], by rw [aiG, if_pos h0, hK, hgd], hAL, by rw [hmd], rfl, ?_⟩
  exact ⟨by show 0 ≤ g0 + 1; omega, by show g0 + 1 ≤ 2147483647; omega, fun e => (by cases e), fun _ => ⟨by show 0 < g0 + 1; omega, by show (128 : Int) ≤ a; omega, by show (a : Int) < 2048; omega⟩⟩
section
variable {l l' : List UInt64} {q k p n c : Nat} {g0 : Int} {b : Hb} {t : List UInt8} {P S : List Hb}
/-- what an allocation makes of an image -/
theorem Al.after (h : Al l q k p n c g0 b t P S l') :
    allE (seen l) q = 0 ∧ allS (seen l) q = k ∧ allG (seen l) q = g0 + 1 ∧ Rt l' ∧ seen l' = numM (allM (seen l) q) (insN (O19 l).length (objs P).length) ∧ slots l' = (slots l).set k ⟨g0 + 1, true, (p : Int)⟩ ∧
      (∃ R, (R = [] ∧ c = n ∨ (∃ nx, R = [{ restH p n c with next := nx }]) ∧ c ≠ n) ∧ allL l' = P ++ (([objH p n q] ++ R) ++ S)) ∧ T19 l' = T19 l ∧ O19 l = objs P ++ objs S ∧ O19 l' = objs P ++ objH p n q :: objs S := by
  have hcs : b.size.toNat = c := by rw [h.hsz]; rfl
  obtain ⟨h1, h2, h3, h4, h5, h6, ⟨R, hR, h7⟩, h8, h9, h10⟩ := seen_alloc2 h.rt h.hL h.hbk h.hat h.hT h.hn (by rw [h.hsz]; have := h.hc; omega) h.hk h.hnx h.hs (l' := l') (by rw [hcs]; exact h.hl)
  rw [hcs, h.hsz] at hR
  refine ⟨h1, h2, h3, h4, h5, h6, ⟨R, ?_, h7⟩, h8, h9, h10⟩
  rcases hR with ⟨e1, e2⟩ | ⟨e1, e2⟩
  · exact .inl ⟨e1, by omega⟩
  · exact .inr ⟨⟨_, e1⟩, by omega⟩
end
end Go.Proofs.YtmbokdnndlnjkaaGreat.L19
namespace Go.Proofs.YtmbokdnndlnjkaaGreat.L19
open L02 L07 L13 L14 L15 L16 L18 L20
def sumE (l : List UInt64) : Int := if allErr l = 0 then sumN (freeL l) else 0
theorem sum_bound : ∀ {F : List Hb} {j : Nat}, (∀ c ∈ F, 0 ≤ c.size ∧ c.size ≤ 2000) → F.length ≤ j → 0 ≤ sumN F ∧ sumN F ≤ 2000 * j
  | [], j, _, _ => by simp only [sumN]; omega
  | c :: F, j, h, hl => by
    rw [List.length_cons] at hl
    have h1 := sum_bound (F := F) (j := j - 1) (fun c hc => h c (List.mem_cons_of_mem _ hc)) (by omega)
    have h2 := h c List.mem_cons_self
    rw [sumN]; omega
theorem sumN_app : ∀ (A B : List Hb), sumN (A ++ B) = sumN A + sumN B
  | [], B => by simp [sumN]
  | a :: A, B => by rw [List.cons_append, sumN, sumN, sumN_app A B]; omega
theorem Seg.sum {l : List UInt64} {k q : Nat} {L : List Hb} (h : Seg l k L q) : (q : Int) = k + sumN L := by
  induction h with
  | nil h => simp [sumN]
  | cons hk hs ht ih => rw [sumN, stand_size hs]; omega
theorem sum_parts : ∀ {L : List Hb}, (∀ b ∈ L, b.kind = 1 ∨ b.kind = 2) → sumN L = sumN (free L) + sumN (objs L)
  | [], _ => rfl
  | b :: L, h => by
    have ih := sum_parts (L := L) (fun c hc => h c (List.mem_cons_of_mem _ hc))
    rcases h b List.mem_cons_self with hb | hb
    · have e1 : free (b :: L) = free L := by unfold free; rw [List.filter_cons_of_neg (by simp; omega)]
      have e2 : objs (b :: L) = b :: objs L := by unfold objs; rw [List.filter_cons_of_pos (by simp; omega)]
      rw [e1, e2, sumN, sumN]; omega
    · have e1 : free (b :: L) = b :: free L := by unfold free; rw [List.filter_cons_of_pos (by simp; omega)]
      have e2 : objs (b :: L) = objs L := by unfold objs; rw [List.filter_cons_of_neg (by simp; omega)]
      rw [e1, e2, sumN, sumN]; omega
/-- the words of free extents and of objects are those of the heap -/
theorem sum_all {l : List UInt64} (h : allErr l = 0) : sumN (freeL l) + sumN (O19 l) = (l.length : Int) - 128 := by
  have h1 := (seg_of_all h).1.sum
  have h2 := sum_parts (L := allL l) (fun b hb => by
    obtain ⟨a, _, _, h3, h4, _⟩ := all_mem h hb
    have := (stand_ok h3).bounds
    rw [← h4] at this
    exact this.2.2.2.1)
  have e1 : freeL l = free (allL l) := rfl
  have e2 : O19 l = objs (allL l) := rfl
  rw [e1, e2]; omega
theorem all_pair {l : List UInt64} (h : allErr l = 0) : (allL l).Pairwise fun a b => a.at_ + a.size ≤ b.at_ :=
  (chain_apart (chain_iff.1 (parsed_ok.1 (allErr_ok h).2).1)).2
theorem all_size {l : List UInt64} (h : allErr l = 0) {b : Hb} (hb : b ∈ allL l) : 2 ≤ b.size := by
  obtain ⟨a, _, _, h3, h4, _⟩ := all_mem h hb
  have := (stand_ok h3).bounds
  rw [← h4] at this
  omega
end Go.Proofs.YtmbokdnndlnjkaaGreat.L19
namespace Go.Proofs.YtmbokdnndlnjkaaGreat.L19
open L02 L07 L13 L14 L15 L16 L18 L20
/-- a block by its address -/
theorem find_of {l : List UInt64} (h : allErr l = 0) {b : Hb} (hb : b ∈ allL l) : findErr l b.at_ = 0 ∧ find l b.at_ = b := by
  have hf : findB (allL l) b.at_ = some b := by
    unfold findB
    cases hc : (allL l).find? (fun c => decide (c.at_ = b.at_)) with
    | none =>
      rw [List.find?_eq_none] at hc
      have := hc b hb
      simp at this
    | some c =>
      have h1 := List.mem_of_find?_eq_some hc
      have h2 := List.find?_some hc
      have h3 : c.at_ = b.at_ := by simpa using h2
      have h4 := all_size h h1
      have h5 := all_size h hb
      rcases all_apart h h1 hb with e | e | e
      · rw [e]
      · omega
      · omega
  have he : findErr l b.at_ = 0 := by rw [findErr, if_pos h, hf]; rfl
  exact ⟨he, by rw [find, if_pos he, hf]; rfl⟩
section
variable {l l' : List UInt64} {q k p n c : Nat} {g0 : Int} {b : Hb} {t : List UInt8} {P S : List Hb}
theorem Al.len (h : Al l q k p n c g0 b t P S l') : l'.length = l.length := by rw [h.hl, List.length_set, putW_len]
theorem Al.res (h : Al l q k p n c g0 b t P S l') : resErr l' k (g0 + 1) = 0 ∧ L18.res l' k (g0 + 1) = (p : Int) := by
  obtain ⟨_, _, _, r', _, hs, _⟩ := h.after
  have hk : (slots l')[k]? = some ⟨g0 + 1, true, (p : Int)⟩ := by rw [hs, List.getElem?_set_self (by rw [slots_len' h.rt.sl]; exact h.hk)]
  have := resErr_at r'.sl hk (g0 + 1)
  exact ⟨by rw [this.1, if_pos ⟨rfl, rfl⟩], this.2 rfl rfl⟩
theorem Al.found (h : Al l q k p n c g0 b t P S l') : findErr l' (p : Int) = 0 ∧ find l' (p : Int) = objH p n q := by
  obtain ⟨_, _, _, r', _, _, ⟨R, _, hL⟩, _⟩ := h.after
  exact find_of r'.al (b := objH p n q) (by rw [hL]; simp)
theorem Al.words (h : Al l q k p n c g0 b t P S l') : sumE l' = sumE l - n ∧ 0 ≤ sumE l' ∧ sumE l ≤ 2000 := by
  obtain ⟨_, _, _, r', _, _, _, _, e1, e2⟩ := h.after
  have s0 := sum_all h.rt.al
  have s1 := sum_all r'.al
  rw [e1, sumN_app] at s0
  rw [e2, sumN_app, sumN, h.len] at s1
  have hp : ∀ {m : List UInt64}, allErr m = 0 → 0 ≤ sumN (freeL m) ∧ 0 ≤ sumN (O19 m) := fun {m} hm => by
    have hb : ∀ c ∈ allL m, 0 ≤ c.size ∧ c.size ≤ 2000 := fun c hc => by
      obtain ⟨a, _, _, h3, h4, _⟩ := all_mem hm hc
      have := (stand_ok h3).bounds
      rw [← h4] at this
      omega
    exact ⟨(sum_bound (j := (freeL m).length) (fun c hc => hb c (free_mem.1 hc).1) (Nat.le_refl _)).1, (sum_bound (j := (O19 m).length) (fun c hc => hb c (objs_mem.1 hc).1) (Nat.le_refl _)).1⟩
  have h1 := hp h.rt.al
  have h2 := hp r'.al
  have h3 := h.rt.sz.2.1
  rw [e1, sumN_app] at h1
  have ho : (objH p n q).size = (n : Int) := rfl
  rw [ho] at s1
  unfold sumE
  rw [if_pos r'.al, if_pos h.rt.al]
  omega
theorem Al.zero (h : Al l q k p n c g0 b t P S l') : ∀ i, p < i → i < p + n → l'[i]? = some 0 := fun i h1 h2 => by
  have hc := h.hc; have hp := h.hp; have hk := h.hk
  obtain ⟨w1, w2, w3, w4⟩ := newW_get (l := l) (p := p) (n := n) (q := q) (c := c) (by omega) hc.1 (by omega)
  have h3 : (putW l p (newW p n q c)).getD i 0 = 0 := w2 i h1 h2
  have hlt : i < (putW l p (newW p n q c)).length := by rw [putW_len]; omega
  rw [h.hl, List.getElem?_set_ne (by omega), List.getElem?_eq_getElem hlt]
  rw [List.getD_eq_getElem?_getD, List.getElem?_eq_getElem hlt] at h3
  exact congrArg some h3
end
end Go.Proofs.YtmbokdnndlnjkaaGreat.L19
namespace Go.Proofs.YtmbokdnndlnjkaaGreat.L19
open L02 L07 L13 L14 L15 L16 L18 L20
/-- blocks that are objects before an address -/
def isO (p : Int) (b : Hb) : Bool := decide (b.kind = 1) && decide (b.at_ < p)
def cntF (p : Int) (L : List Hb) : Nat := (L.filter (isO p)).length
theorem cntF_app (p : Int) (A B : List Hb) : cntF p (A ++ B) = cntF p A + cntF p B := by unfold cntF; rw [List.filter_append, List.length_append]
theorem cntF_objs {p : Int} {L : List Hb} (h : ∀ b ∈ L, b.at_ < p) : cntF p L = (objs L).length := by
  unfold cntF objs
  congr 1
  refine List.filter_congr fun b hb => ?_
  unfold isO
  rw [decide_eq_true (h b hb), Bool.and_true]
theorem cntF_none {p : Int} {L : List Hb} (h : ∀ b ∈ L, p ≤ b.at_) : cntF p L = 0 := by
  unfold cntF
  rw [List.length_eq_zero_iff, List.filter_eq_nil_iff]
  intro b hb
  unfold isO
  have := h b hb
  rw [decide_eq_false (by omega : ¬ b.at_ < p), Bool.and_false]; simp
section
variable {l l' : List UInt64} {q k p n c : Nat} {g0 : Int} {b : Hb} {t : List UInt8} {P S : List Hb}
theorem Al.first (h : Al l q k p n c g0 b t P S l') : cntF p (allL l') = (objs P).length ∧ (objs P).length ≤ (O19 l).length ∧ (O19 l).length ≤ 959 := by
  obtain ⟨_, _, _, r', _, _, ⟨R, _, hL⟩, _, e1, e2⟩ := h.after
  have hp := all_pair r'.al
  have hs : ∀ d ∈ allL l', 2 ≤ d.size := fun d hd => all_size r'.al hd
  have hlen : (O19 l').length ≤ 960 := Nat.le_trans (List.length_filter_le _ _) (all_len r'.al)
  rw [hL] at hp hs ⊢
  obtain ⟨_, pb, pc⟩ := List.pairwise_append.1 hp
  rw [List.append_assoc] at pb
  refine ⟨?_, by rw [e1, List.length_append]; omega, ?_⟩
  · rw [cntF_app, cntF_objs, cntF_none]
    · rfl
    · intro d hd
      rw [List.append_assoc] at hd
      rcases List.mem_cons.1 hd with rfl | hd
      · exact Int.le_refl _
      · have := (List.pairwise_cons.1 pb).1 d hd
        have h2 : (objH p n q).at_ = (p : Int) := rfl
        have h3 : (objH p n q).size = (n : Int) := rfl
        omega
    · intro d hd
      have := pc d hd (objH p n q) (by simp)
      have h2 : (objH p n q).at_ = (p : Int) := rfl
      have := hs d (by simp [hd])
      omega
  · rw [e2, List.length_append, List.length_cons] at hlen
    rw [e1, List.length_append]; omega
theorem Al.hd (h : Al l q k p n c g0 b t P S l') : ∃ q' t', Hd l' k p (objs P).length q' (g0 + 1) (objH p n q) t' := by
  obtain ⟨_, _, _, r', _, hs, _, _, _, hO⟩ := h.after
  exact Hd.mk2 r' h.hk (by rw [hs, List.getElem?_set_self (by rw [slots_len' h.rt.sl]; exact h.hk)]) (by rw [hO, List.getElem?_append_right (Nat.le_refl _), Nat.sub_self]; rfl) rfl
/-- nothing refers to what was just allocated -/
theorem Al.idle (h : Al l q k p n c g0 b t P S l') : fiE l' k (g0 + 1) = 0 := by
  obtain ⟨q', t', hd⟩ := h.hd
  obtain ⟨_, _, _, r', _, hs, _, hT, hO, hO'⟩ := h.after
  have hcs : b.size.toNat = c := by rw [h.hsz]; rfl
  obtain ⟨l1, hl1⟩ : ∃ l1, l1 = putW l p (newW p n q c) := ⟨_, rfl⟩
  obtain ⟨_, _, _, _, _, _, _, hap, hfw1, _⟩ := seen_alloc h.rt h.hL h.hbk h.hat h.hT h.hn (by rw [h.hsz]; have := h.hc; omega) (l' := l1) (by rw [hcs]; exact hl1)
  have hfw : ∀ d ∈ O19 l, ∀ j, j < (kindsB (T19 l) d).length → fw l' d j = fw l d j := fun d hd j hj => by
    have := objs_low h.rt.al d hd
    have := h.hk
    rw [← hfw1 d hd j hj, h.hl, ← hl1]; exact fw_set (by omega)
  unfold fiE
  rw [if_pos hd.hask, if_neg]
  rw [hd.busy]
  rintro (⟨i, s, h1, h2, h3, h4⟩ | ⟨d, h1, h2, j, h3, h4, h5⟩)
  · rw [hs, List.getElem?_set_ne (Ne.symm h1)] at h2
    exact hap s.at_ (h.rt.slots s (List.mem_of_getElem? h2) h3) h4
  · have hdm : d ∈ O19 l := by
      rw [hO'] at h1
      rw [hO]
      rcases List.mem_append.1 h1 with h1 | h1
      · exact List.mem_append.2 (.inl h1)
      · rcases List.mem_cons.1 h1 with rfl | h1
        · exact absurd rfl h2
        · exact List.mem_append.2 (.inr h1)
    rw [hT] at h3 h4
    rw [hfw d hdm j h3] at h5
    have h11 : fw l d j = 0 ∨ IsObj (O19 l) (fw l d j).toNat := h.rt.good 11 (by omega) (by omega) d hdm j h3 h4
    rcases h11 with e | e
    · rw [e] at h5; have := h.hp; simp at h5; omega
    · exact hap _ e h5
end
theorem all_idx {l : List UInt64} (h : allErr l = 0) {i j : Nat} {b : Hb} (hi : (allL l)[i]? = some b) (hj : (allL l)[j]? = some b) : i = j := by
  have hp := List.pairwise_iff_getElem.1 (all_pair h)
  have hs := all_size h (List.mem_of_getElem? hi)
  obtain ⟨i1, i2⟩ := List.getElem?_eq_some_iff.1 hi
  obtain ⟨j1, j2⟩ := List.getElem?_eq_some_iff.1 hj
  rcases Nat.lt_trichotomy i j with hlt | e | hlt
  · have := hp i j i1 j1 hlt
    rw [i2, j2] at this; omega
  · exact e
  · have := hp j i j1 i1 hlt
    rw [i2, j2] at this; omega
section
variable {l l' : List UInt64} {q k p n c : Nat} {g0 : Int} {b : Hb} {t : List UInt8} {P S : List Hb}
end
end Go.Proofs.YtmbokdnndlnjkaaGreat.L19
