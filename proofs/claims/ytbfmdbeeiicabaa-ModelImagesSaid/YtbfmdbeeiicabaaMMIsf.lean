/- Contracts of the functions that the law 'ModelImages' reaches, part 6. No condition. -/
import Derived.Test.YtbfmdbeeiicabaaMMIse
set_option linter.unusedVariables false
set_option linter.unusedSimpArgs false
namespace Go.Proofs.Ytbfmdbeeiicabaa.L20
open L02 L13 L18
/-- of the same types -/
def Like (m m' : Mo) : Prop := m'.types = m.types ∧ m'.objs.length = m.objs.length ∧ ∀ k, (ob m' k).ty = (ob m k).ty ∧ (ob m' k).fs.length = (ob m k).fs.length
theorem Like.refl (m : Mo) : Like m m := ⟨rfl, rfl, fun _ => ⟨rfl, rfl⟩⟩
/-- the first i fields changed -/
def mapO (φ : UInt8 → UInt64 → UInt64) (T : List (List UInt8)) (o : Ob) (i : Nat) : Ob := ⟨o.ty, (List.range o.fs.length).map fun j => if j < i then φ ((ty T o).getD j 0) (o.fs.getD j 0) else o.fs.getD j 0⟩
/-- the objects before n changed, and i fields of n -/
def mapP (φ : UInt8 → UInt64 → UInt64) (m : Mo) (n i : Nat) : Mo := ⟨m.types, (List.range m.objs.length).map fun k => if k < n then mapO φ m.types (ob m k) (ob m k).fs.length else if k = n then mapO φ m.types (ob m k) i else ob m k, m.slots⟩
section
variable {φ : UInt8 → UInt64 → UInt64} {m : Mo} {n i : Nat}
theorem mapO_zero (T : List (List UInt8)) (o : Ob) : mapO φ T o 0 = o := by
  obtain ⟨t, fs⟩ := o
  have : (List.range fs.length).map (fun j => fs.getD j 0) = fs := by
    apply List.ext_getElem?
    intro k
    rcases Nat.lt_or_ge k fs.length with h | h
    · simp [h, List.getD_eq_getElem?_getD]
    · rw [List.getElem?_eq_none (by simpa using h), List.getElem?_eq_none h]
  simp only [List.getD_eq_getElem?_getD] at this
  simp [mapO, this]
theorem mapO_len (T : List (List UInt8)) (o : Ob) (i : Nat) : (mapO φ T o i).fs.length = o.fs.length := by simp [mapO]
theorem ob_mapP (k : Nat) (hk : k < m.objs.length) : ob (mapP φ m n i) k = if k < n then mapO φ m.types (ob m k) (ob m k).fs.length else if k = n then mapO φ m.types (ob m k) i else ob m k := by
  rw [ob, List.getD_eq_getElem?_getD]
  simp [mapP, hk]
theorem mapP_zero : mapP φ m 0 0 = m := by
  obtain ⟨T, L, S⟩ := m
  simp only [mapP]
  congr 1
  apply List.ext_getElem?
  intro k
  rcases Nat.lt_or_ge k L.length with h | h
  · simp [h, mapO_zero, ob, List.getD_eq_getElem?_getD]
  · rw [List.getElem?_eq_none (by simpa using h), List.getElem?_eq_none h]
theorem mapP_next : mapP φ m n (ob m n).fs.length = mapP φ m (n + 1) 0 := by
  simp only [mapP]
  congr 1
  refine List.map_congr_left fun k _ => ?_
  by_cases h1 : k < n
  · rw [if_pos h1, if_pos (by omega)]
  · by_cases h2 : k = n
    · subst h2; rw [if_neg h1, if_pos rfl, if_pos (by omega)]
    · rw [if_neg h1, if_neg h2, if_neg (by omega)]
      by_cases h3 : k = n + 1
      · rw [if_pos h3, mapO_zero]
      · rw [if_neg h3]
theorem mapP_like : Like m (mapP φ m n i) := by
  refine ⟨rfl, by simp [mapP], fun k => ?_⟩
  rcases Nat.lt_or_ge k m.objs.length with h | h
  · rw [ob_mapP k h]
    split
    · exact ⟨rfl, mapO_len _ _ _⟩
    · split
      · exact ⟨rfl, mapO_len _ _ _⟩
      · exact ⟨rfl, rfl⟩
  · rw [ob, ob, List.getD_eq_getElem?_getD, List.getD_eq_getElem?_getD, List.getElem?_eq_none (by simpa [mapP] using h), List.getElem?_eq_none h]
    exact ⟨rfl, rfl⟩
theorem mapO_get (T : List (List UInt8)) (o : Ob) {i j : Nat} (hj : j < o.fs.length) : (mapO φ T o i).fs[j]? = some (if j < i then φ ((ty T o).getD j 0) (o.fs.getD j 0) else o.fs.getD j 0) := by
  simp [mapO, hj]
theorem mapO_set (T : List (List UInt8)) (o : Ob) {i : Nat} (hi : i < o.fs.length) : (mapO φ T o i).fs.set i (φ ((ty T o).getD i 0) (o.fs.getD i 0)) = (mapO φ T o (i + 1)).fs := by
  apply List.ext_getElem?
  intro j
  rcases Nat.lt_or_ge j o.fs.length with h | h
  · by_cases hij : i = j
    · subst hij
      rw [List.getElem?_set_self (by rw [mapO_len]; exact hi), mapO_get T o hi, if_pos (by omega)]
    · rw [List.getElem?_set_ne hij, mapO_get T o h, mapO_get T o h]
      by_cases h1 : j < i
      · rw [if_pos h1, if_pos (by omega)]
      · rw [if_neg h1, if_neg (by omega)]
  · rw [List.getElem?_eq_none (by rw [List.length_set, mapO_len]; exact h), List.getElem?_eq_none (by rw [mapO_len]; exact h)]
/-- one more reference is changed -/
theorem mapP_step (hn : n < m.objs.length) (hi : i < (ob m n).fs.length) : putF (mapP φ m n i) n i (φ ((ty m.types (ob m n)).getD i 0) ((ob m n).fs.getD i 0)) = mapP φ m n (i + 1) := by
  have hob : ob (mapP φ m n i) n = mapO φ m.types (ob m n) i := by rw [ob_mapP n hn, if_neg (by omega), if_pos rfl]
  rw [putF, hob]
  show (⟨m.types, (mapP φ m n i).objs.set n ⟨(ob m n).ty, _⟩, m.slots⟩ : Mo) = ⟨m.types, (mapP φ m n (i + 1)).objs, m.slots⟩
  congr 1
  rw [mapO_set m.types _ hi]
  apply List.ext_getElem?
  intro k
  rcases Nat.lt_or_ge k m.objs.length with h | h
  · by_cases hk : n = k
    · subst hk
      rw [List.getElem?_set_self (by simpa [mapP] using h)]
      simp [mapP, h, mapO]
    · rw [List.getElem?_set_ne hk]
      simp only [mapP, List.getElem?_map, List.getElem?_range h, Option.map_some]
      by_cases h1 : k < n
      · rw [if_pos h1, if_pos h1]
      · rw [if_neg h1, if_neg h1, if_neg (Ne.symm hk), if_neg (Ne.symm hk)]
  · rw [List.getElem?_eq_none (by simpa [mapP] using h), List.getElem?_eq_none (by simpa [mapP] using h)]
/-- a field that does not change -/
theorem mapP_skip (h : φ ((ty m.types (ob m n)).getD i 0) ((ob m n).fs.getD i 0) = (ob m n).fs.getD i 0) : mapP φ m n (i + 1) = mapP φ m n i := by
  simp only [mapP]
  congr 1
  refine List.map_congr_left fun k _ => ?_
  by_cases h1 : k < n
  · rw [if_pos h1, if_pos h1]
  · by_cases h2 : k = n
    · subst h2
      rw [if_neg h1, if_pos rfl, if_neg h1, if_pos rfl]
      simp only [mapO]
      congr 1
      refine List.map_congr_left fun j _ => ?_
      by_cases h3 : j < k
      all_goals
        by_cases h4 : j = i
        · subst h4; simp only [List.getD_eq_getElem?_getD] at h; simp [h]
        · have : (j < i + 1) = (j < i) := by rw [eq_iff_iff]; omega
          simp only [this]
    · rw [if_neg h1, if_neg h2, if_neg h1, if_neg h2]
/-- what stands in a field now -/
theorem mapP_fld (hn : n < m.objs.length) (hi : i < (ob m n).fs.length) : ∃ o, (mapP φ m n i).objs[n]? = some o ∧ o.fs[i]? = some ((ob m n).fs.getD i 0) := by
  refine ⟨mapO φ m.types (ob m n) i, ?_, ?_⟩
  · simp [mapP, hn]
  · rw [mapO_get _ _ hi, if_neg (by omega)]
theorem mapP_done : mapP φ m m.objs.length 0 = ⟨m.types, m.objs.map fun o => mapO φ m.types o o.fs.length, m.slots⟩ := by
  simp only [mapP]
  congr 1
  apply List.ext_getElem?
  intro k
  rcases Nat.lt_or_ge k m.objs.length with h | h
  · simp [h, ob, List.getD_eq_getElem?_getD]
  · rw [List.getElem?_eq_none (by simpa using h), List.getElem?_eq_none (by simpa using h)]
end
end Go.Proofs.Ytbfmdbeeiicabaa.L20
namespace Go.Proofs.Ytbfmdbeeiicabaa.L20
open L02 L13 L18
/-- the first j of a list changed -/
def mapT {α : Type} (f : α → α) (L : List α) (j : Nat) : List α := (L.take j).map f ++ L.drop j
section
variable {α : Type} {f : α → α} {L : List α} {k : Nat} {s : α}
theorem mapT_zero : mapT f L 0 = L := by simp [mapT]
theorem mapT_done (h : L.length ≤ k) : mapT f L k = L.map f := by simp [mapT, List.take_of_length_le h, List.drop_of_length_le h]
theorem mapT_len : (mapT f L k).length = L.length := by simp [mapT]; omega
theorem mapT_get (hs : L[k]? = some s) : (mapT f L k)[k]? = some s := by
  have hk : k < L.length := (List.getElem?_eq_some_iff.1 hs).1
  rw [mapT, List.getElem?_append_right (by simp; omega)]
  simp [Nat.min_eq_left (Nat.le_of_lt hk), hs]
theorem mapT_set (hs : L[k]? = some s) : (mapT f L k).set k (f s) = mapT f L (k + 1) := by
  have hk : k < L.length := (List.getElem?_eq_some_iff.1 hs).1
  have hd : L.drop k = s :: L.drop (k + 1) := by
    rw [List.drop_eq_getElem_cons hk]; congr 1
    rw [List.getElem?_eq_getElem hk] at hs; injection hs
  rw [mapT, mapT, List.take_add_one, hs, hd]
  rw [List.set_append_right _ _ (by simp; omega)]
  simp [Nat.min_eq_left (Nat.le_of_lt hk)]
theorem mapT_same (hs : L[k]? = some s) (hf : f s = s) : mapT f L (k + 1) = mapT f L k := by
  rw [← mapT_set hs, hf]
  apply List.ext_getElem?
  intro i
  by_cases hi : i = k
  · subst hi
    rw [List.getElem?_set_self (by rw [mapT_len]; exact (List.getElem?_eq_some_iff.1 hs).1), mapT_get hs]
  · rw [List.getElem?_set_ne (Ne.symm hi)]
end
/-- a field of another object, before field i of object n, refers to q -/
def refTo (m : Mo) (q n i : Nat) : Prop := ∃ a b, (a < n ∨ a = n ∧ b < i) ∧ a < m.objs.length ∧ b < (ob m a).fs.length ∧ a ≠ q ∧ isRef m (ob m a) b q
/-- a slot before j refers to q -/
def sloTo (S : List Sl) (q j : Nat) : Prop := ∃ a s, a < j ∧ S[a]? = some s ∧ s.used = true ∧ s.at_ = (q : Int)
section
variable {m : Mo} {q n i : Nat}
theorem refTo_zero : ¬ refTo m q 0 0 := by rintro ⟨a, b, h, _⟩; omega
theorem refTo_next (hn : n < m.objs.length) : refTo m q n (ob m n).fs.length ↔ refTo m q (n + 1) 0 := by
  constructor
  · rintro ⟨a, b, h, h1, h2, h3⟩; exact ⟨a, b, by omega, h1, h2, h3⟩
  · rintro ⟨a, b, h, h1, h2, h3⟩
    refine ⟨a, b, ?_, h1, h2, h3⟩
    by_cases ha : a = n
    · subst ha; exact .inr ⟨rfl, h2⟩
    · exact .inl (by omega)
theorem refTo_step (hn : n < m.objs.length) (hi : i < (ob m n).fs.length) : refTo m q n (i + 1) ↔ (refTo m q n i ∨ (n ≠ q ∧ isRef m (ob m n) i q)) := by
  constructor
  · rintro ⟨a, b, h, h1, h2, h3, h4⟩
    by_cases hab : a = n ∧ b = i
    · obtain ⟨rfl, rfl⟩ := hab; exact .inr ⟨h3, h4⟩
    · exact .inl ⟨a, b, by omega, h1, h2, h3, h4⟩
  · rintro (⟨a, b, h, h1, h2, h3, h4⟩ | ⟨h3, h4⟩)
    · exact ⟨a, b, by omega, h1, h2, h3, h4⟩
    · exact ⟨n, i, by omega, hn, hi, h3, h4⟩
theorem refTo_done : refTo m q m.objs.length 0 ↔ ∃ i, i < m.objs.length ∧ i ≠ q ∧ ∃ k, k < (ob m i).fs.length ∧ isRef m (ob m i) k q := by
  constructor
  · rintro ⟨a, b, h, h1, h2, h3, h4⟩; exact ⟨a, h1, h3, b, h2, h4⟩
  · rintro ⟨a, h1, h3, b, h2, h4⟩; exact ⟨a, b, .inl h1, h1, h2, h3, h4⟩
theorem sloTo_zero {S : List Sl} : ¬ sloTo S q 0 := by rintro ⟨a, s, h, _⟩; omega
theorem sloTo_step {S : List Sl} {j : Nat} {s : Sl} (hs : S[j]? = some s) : sloTo S q (j + 1) ↔ (sloTo S q j ∨ (s.used = true ∧ s.at_ = (q : Int))) := by
  constructor
  · rintro ⟨a, t, h, h1, h2⟩
    by_cases ha : a = j
    · subst ha; rw [hs] at h1; injection h1 with h1; subst h1; exact .inr h2
    · exact .inl ⟨a, t, by omega, h1, h2⟩
  · rintro (⟨a, t, h, h1, h2⟩ | h2)
    · exact ⟨a, t, by omega, h1, h2⟩
    · exact ⟨j, s, by omega, hs, h2⟩
/-- what keeps an object from being freed -/
theorem busy_iff {k : Nat} {g : Int} (hk : k < m.slots.length) (n : Nat) : Busy m (k : Int) n ↔ (sloTo (m.slots.set k ⟨g, false, 0⟩) n m.slots.length ∨ refTo m n m.objs.length 0) := by
  rw [refTo_done]
  refine or_congr ?_ Iff.rfl
  constructor
  · rintro ⟨i, hi, hne, hu, ha⟩
    refine ⟨i, m.slots[i], hi, ?_, ?_⟩
    · rw [List.getElem?_set_ne (by omega), List.getElem?_eq_getElem hi]
    · simp only [List.getD_eq_getElem?_getD, List.getElem?_eq_getElem hi, Option.getD_some] at hu ha
      exact ⟨hu, ha⟩
  · rintro ⟨i, s, hi, hs, hu, ha⟩
    by_cases hik : k = i
    · subst hik
      rw [List.getElem?_set_self hk] at hs
      injection hs with hs; subst hs; cases hu
    · rw [List.getElem?_set_ne hik] at hs
      refine ⟨i, hi, by omega, ?_, ?_⟩
      · simp [List.getD_eq_getElem?_getD, hs, hu]
      · simp [List.getD_eq_getElem?_getD, hs, ha]
end
theorem range_filter (a : Nat) : ∀ N, (List.range N).filter (fun n => decide (n = a)) = if a < N then [a] else []
  | 0 => by simp
  | N + 1 => by
    rw [List.range_succ, List.filter_append, range_filter a N]
    by_cases h : a < N
    · rw [if_pos h, if_pos (by omega)]
      have : ¬ N = a := by omega
      simp [this]
    · rw [if_neg h]
      by_cases h2 : a = N
      · subst h2; simp
      · rw [if_neg (by omega)]
        have : ¬ N = a := fun e => h2 e.symm
        simp [this]
def sk (q w : Nat) : Nat := if w < q then w else w + 1
/-- .. and what it is made of -/
theorem free_map {m : Mo} {q : Nat} {S : List Sl} : mapP (lowV q) ⟨m.types, m.objs, S⟩ m.objs.length 0 = ⟨m.types, m.objs.map (lowO m q), S⟩ := by
  have := mapP_done (φ := lowV q) (m := ⟨m.types, m.objs, S⟩)
  dsimp only at this
  rw [this]
  congr 1
  refine List.map_congr_left fun o _ => ?_
  rw [mapO, lowO]
  congr 1
  refine List.map_congr_left fun j hj => ?_
  rw [if_pos (List.mem_range.1 hj)]
end Go.Proofs.Ytbfmdbeeiicabaa.L20
namespace Go.Proofs.Ytbfmdbeeiicabaa.L19
open L02 L07 L13 L14 L15 L16 L18 L20
theorem idx_app : ∀ {A B : List Hb} {a : Int}, idx (A ++ B) a = match idx A a with | some i => some i | none => (idx B a).map (· + A.length)
  | [], B, a => by
    show idx B a = (idx B a).map (· + 0)
    cases idx B a <;> rfl
  | b :: A, B, a => by
    rw [List.cons_append, idx, idx]
    by_cases h : b.at_ = a
    · rw [if_pos h, if_pos h]
    · rw [if_neg h, if_neg h, idx_app]
      cases idx A a with
      | some i => rfl
      | none =>
        cases idx B a with
        | none => rfl
        | some i => show some (i + A.length + 1) = some (i + (A.length + 1)); rfl
theorem refV_none {O : List Hb} {v : UInt64} (h : ¬ IsObj O v.toNat) : refV O v = 0 := by unfold refV; rw [idx_none.2 h]
theorem no_zero {l : List UInt64} (h : allErr l = 0) {O : List Hb} (hO : ∀ b ∈ O, 128 ≤ b.at_) : ¬ IsObj O (0 : UInt64).toNat := by
  rintro ⟨b, hb, e⟩
  have := hO b hb
  rw [e] at this
  simp at this
theorem objs_low {l : List UInt64} (h : allErr l = 0) : ∀ b ∈ O19 l, 128 ≤ b.at_ := fun b hb => by
  obtain ⟨a, h1, h2, _⟩ := objs_at h hb
  omega
theorem fldV_not {O : List Hb} {k : UInt8} {v : UInt64} (h : k.toNat ≠ 3) : fldV O k v = v := if_neg h
theorem fldV_ref {O : List Hb} {k : UInt8} {v : UInt64} (h : k.toNat = 3) : fldV O k v = refV O v := if_pos h
/-- images that are the same in front of the heap -/
structure Front (l l' : List UInt64) : Prop where
  len : l'.length = l.length
  take : l'.take 128 = l.take 128
section
variable {l l' : List UInt64}
theorem Front.get (h : Front l l') {i : Nat} (hi : i < 128) : l'.getD i 0 = l.getD i 0 := by
  rw [List.getD_eq_getElem?_getD, List.getD_eq_getElem?_getD, ← List.getElem?_take_of_lt hi, h.take, List.getElem?_take_of_lt hi]
theorem Front.part (h : Front l l') {a n : Nat} (ha : a + n ≤ 128) : (l'.drop a).take n = (l.drop a).take n := by
  have e : ∀ m : List UInt64, (m.drop a).take n = ((m.take 128).drop a).take n := fun m => by
    rw [List.drop_take, List.take_take, Nat.min_eq_left (by omega)]
  rw [e l', e l, h.take]
theorem Front.super (h : Front l l') : rErr l' = rErr l ∧ sT l' = sT l := by
  have h0 : c0 l' = c0 l := by have := h.part (a := 0) (n := 8) (by omega); rwa [List.drop_zero, List.drop_zero] at this
  have h1 : c1 l' = c1 l := h.part (a := 8) (n := 8) (by omega)
  have e0 : is0 l' = is0 l := by unfold is0; rw [h0, h.len]
  have e1 : is1 l' = is1 l := by unfold is1; rw [h1, h.len]
  have e2 : rErr l' = rErr l := by unfold rErr; rw [e0, e1, h.len]
  exact ⟨e2, by unfold sT one; rw [e2, e0, h0, h1]⟩
theorem Front.zr (h : Front l l') {a : Nat} (ha : a + 8 ≤ 128) : Zr l' a ↔ Zr l a := by
  unfold Zr
  constructor <;> intro hh i hi <;> have := hh i hi <;> rw [h.get (by omega)] at * <;> exact this
theorem Front.tab (h : Front l l') (n : Int) : tabErr l' n = tabErr l n ∧ tabT l' n = tabT l n := by
  have e0 : ∀ i, i < 8 → ta l' i = ta l i ∧ tb l' i = tb l i := fun i hi => by unfold ta tb; exact ⟨h.get (by omega), h.get (by omega)⟩
  have e : ∀ k, TysOk l' k ↔ TysOk l k := fun k => by
    unfold TysOk
    constructor <;> intro hh i hi <;> have := hh i hi <;> unfold TyOk at * <;> rw [(e0 i hi).1, (e0 i hi).2] at * <;> exact this
  have e2 : tabErr l' n = tabErr l n := by unfold tabErr; rw [h.len]; simp only [e]
  refine ⟨e2, ?_⟩
  unfold tabT
  rw [e2]
  by_cases h0 : tabErr l n = 0
  · rw [if_pos h0, if_pos h0]
    have hn : n.toNat ≤ 8 := by
      unfold tabErr at h0
      split at h0
      · split at h0
        · omega
        · omega
      · omega
    unfold tysTo
    refine List.map_congr_left fun i hi => ?_
    have := List.mem_range.1 hi
    rw [(e0 i (by omega)).1, (e0 i (by omega)).2]
  · rw [if_neg h0, if_neg h0]
theorem Front.open_ (h : Front l l') : openErr l' = openErr l ∧ slots l' = slots l := by
  have e : ws l' = ws l := h.part (a := 112) (n := 16) (by omega)
  refine ⟨?_, by unfold slots; rw [e]⟩
  have e2 : AllR l' ↔ AllR l := by unfold AllR; rw [e]
  unfold openErr; rw [h.len]; simp only [e2]
theorem Front.types (h : Front l l') : T19 l' = T19 l := by unfold T19; rw [h.super.2, (h.tab _).2]
/-- a right image whose heap is written anew -/
theorem Front.rt (f : Front l l') (h : Rt l) (ha : allErr l' = 0) (hg : ∀ b ∈ O19 l', Idle b ∧ Typed (T19 l) b ∧ Padded l' (T19 l) b ∧ FloatsB l' (T19 l) b ∧ RefsB l' (T19 l) (O19 l') b) (hs : SlotsGood (slots l) (O19 l')) : Rt l' := by
  refine ⟨by rw [f.len]; exact h.sz, f.super.1.trans h.tw, (f.zr (by omega)).2 h.z16, (f.zr (by omega)).2 h.z24, by rw [f.super.2, (f.tab _).1]; exact h.ty, f.open_.1.trans h.sl, ha, ?_, by rw [f.open_.2]; exact hs⟩
  intro i h1 h2 b hb
  rw [f.types]
  obtain ⟨g1, g2, g3, g4, g5⟩ := hg b hb
  rcases (show i = 7 ∨ i = 8 ∨ i = 9 ∨ i = 10 ∨ i = 11 by omega) with rfl | rfl | rfl | rfl | rfl
  · exact g1
  · exact g2
  · exact g3
  · exact g4
  · exact g5
theorem Front.refl (l : List UInt64) : Front l l := ⟨rfl, rfl⟩
theorem Front.trans {m : List UInt64} (h : Front l l') (h2 : Front l' m) : Front l m := ⟨h2.len.trans h.len, h2.take.trans h.take⟩
end
end Go.Proofs.Ytbfmdbeeiicabaa.L19
namespace Go.Proofs.Ytbfmdbeeiicabaa
open Go.RowKit L01 L02 L05 L06 L07 L13 L14 L15 L16 L18 L19
end Go.Proofs.Ytbfmdbeeiicabaa
namespace Go.Proofs.Ytbfmdbeeiicabaa
open Go.RowKit L01 L02 L05 L06 L07 L13 L14 L15 L16 L18 L19
set_option maxRecDepth 100000 in
theorem SlotsR_any (v : Value) (l : List UInt64) (hs : SizeOk l.length) (L : List Sl) (hL : L = all l) (w : World) (h : Words w v l) :
    Calls Try.prog 48 #[v] w fun e w' => ∃ x, e = .returned x ∧ OwnS w' w.heap.size 68 x L ∧ Below w.heap.size w w' := by
  have T := Lib.hid (ToldR_any v l hs L _ hL rfl w h)
  clear hL h hs
  go_enter Try.func48, Try.ntmps48
  go_wp2_with fail
  refine T.out.mono ?_
  rintro e w2 ⟨x, rfl, o, b⟩
  have HO := Lib.hid (And.intro o b)
  clear o b
  go_wp2
  go_ret
  exact ⟨_, rfl, HO.out⟩
/-- the heap is one free extent -/
def whole (L : List Hb) : Bool := match L with | [b] => decide (b.kind = 2) | _ => false
end Go.Proofs.Ytbfmdbeeiicabaa
namespace Go.Proofs.Ytbfmdbeeiicabaa
open Go Go.RowKit
section
variable {P : Program} {ops : Array Oper} {w : World}
theorem wpStill_of_quiet {Q : Act → Prop} : ∀ (l : List Oper) (a : Act), wpQuiet P ops (fun W => W = w) Q l a → wpStill P ops w Q l a
  | [], a, h => h
  | o :: l, a, h => by
    unfold wpQuiet at h
    unfold wpStill
    by_cases hw : Region.wanted o (yielded ops a.tmps) = true
    · rw [if_pos hw] at h ⊢
      obtain ⟨v, h1, h2⟩ := h
      have h3 := h1 w rfl
      have h4 := wpStill_of_quiet l _ h2
      unfold Oper.quietAt at h3
      unfold Oper.still
      cases hr : (execOp a.eval o).run P w with
      | ok n w' =>
        rw [hr] at h3
        cases n with
        | value u => obtain ⟨e1, e2⟩ := h3; subst e2; exact ⟨e1, h4⟩
        | skip => obtain ⟨e1, e2⟩ := h3; subst e2; exact ⟨e1, h4⟩
        | enter f args => obtain ⟨e1, e2⟩ := h3; exact ⟨e1, v, e2, h4⟩
        | _ => exact absurd h3 id
      | halt x w' => rw [hr] at h3; exact absurd h3 id
    · rw [if_neg hw] at h ⊢
      exact wpStill_of_quiet l _ h
theorem wp_region_qtail {id : Nat} {Q : Exit → Act → World → Prop} {a : Act} {l : List Oper} (n : Nat) (hm : P.follows .mixedOrders = true) (hB : Region.lexTailB .any l.toArray n = true)
    (h : wpQuiet P l.toArray (fun W => W = w.drew) (fun a' => wpList P l.toArray Q (l.drop n) a' w.drew) (l.take n) a) : (Code.region id l.toArray true).wp P Q a w :=
  wp_region_still_tail n hm hB (wpStill_of_quiet _ _ h)
end
end Go.Proofs.Ytbfmdbeeiicabaa
namespace Go.Proofs.Ytbfmdbeeiicabaa
open Go.RowKit L01 L02 L05 L06 L07 L13 L14 L15 L18 L19 L20
theorem refV_idxI {O : List Hb} {v : UInt64} (h : O.length ≤ 960) : ((refV O v).toNat : Int) = idxI O v.toNat + 1 := by
  unfold refV idxI
  cases h2 : idx O v.toNat with
  | none => simp
  | some i =>
    obtain ⟨b, h3, _⟩ := idx_some h2
    have := (List.getElem?_eq_some_iff.1 h3).1
    show ((UInt64.ofNat (i + 1)).toNat : Int) = (i : Int) + 1
    rw [UInt64.toNat_ofNat', Nat.mod_eq_of_lt (by omega)]; omega
theorem slOf_used {O : List Hb} {s : Sl} (h : s.used = true) : slOf O s = ⟨s.gen, true, idxI O s.at_⟩ := by
  unfold slOf; rw [if_pos h]; rfl
theorem slOf_not {O : List Hb} {s : Sl} (h : s.used = false) : slOf O s = s := by unfold slOf; rw [h]; rfl
theorem form_T {w : World} {B : Nat} {v : Value} {L : List (List UInt8)} (h : OwnT w B v L) : ∃ A n c, v = .slice A n c := by
  obtain ⟨vs, _, h2, _⟩ := h
  obtain ⟨A, c, e⟩ := own_form' h2
  exact ⟨A, _, c, e⟩
end Go.Proofs.Ytbfmdbeeiicabaa
namespace Go.Proofs.Ytbfmdbeeiicabaa
open Go.RowKit L01 L02 L05 L06 L07 L13 L14 L15 L18 L19 L20
theorem All18_own (v : Value) (l : List UInt64) (L : List Sl) (hL : L = slots l) (h0 : openErr l = 0) (w : World) (h : Words w v l) :
    Calls Try.prog 38 #[v] w fun e w' => ∃ x, e = .returned (.tuple #[x, .int .i64 0]) ∧ OwnS w' w.heap.size 127 x L ∧ Below w.heap.size w w' := by
  have B : Below w.heap.size w w := Below.refl _ _
  obtain ⟨V, hV⟩ : ∃ V, V = tab (tabOf l) := ⟨_, rfl⟩
  have HOT := Lib.hid (fun w h => open_any v l V hV 0 h0.symm w h); have H := Lib.hid h; clear h
  have hVs : V.size = 48 := by rw [hV]; exact tabOf_size l
  have hV1 : V.all (·.oneCell') = true := by rw [hV]; exact tab_one _
  have hVL : V = tab L := by rw [hV, tabOf_ok h0, hL]
  have hL16 : L.length = 16 := by rw [hL]; exact slots16 h0
  have HVs := Lib.hid hVs; have HV1 := Lib.hid hV1; have HVL := Lib.hid hVL; have HL16 := Lib.hid hL16
  clear h0 hVs hV1 hVL hL16 hV hL
  go_enter Try.func38, Try.ntmps38
  go_wp2_with fail
  refine (HOT.out _ (H.out.below B)).mono ?_
  rintro e w' ⟨rfl, b⟩
  replace B := B.trans (b.mono B.size); clear b
  go_wp2_with ((with_reducible refine at_store 127 4 9 ?_); refine wpList_storeNew rfl _ _ _ rfl rfl V rfl rfl (by rw [HVs.out]; exact size_table) (by rw [HVs.out]; rfl) HV1.out ?_; intro W q1 b1)
  go_ret2
  exact ⟨_, rfl, q1.ownS B.size HVL.out HL16.out, B.trans (b1.mono B.size)⟩
/-- one more object at the end of a model's objects: all else is kept -/
structure PushO (wr W' w : World) (B0 p : Nat) (v xt ys : Value) (L : List Ob) (o : Ob) : Prop where
  own : OwnO W' B0 v (L ++ [o])
  md : Bx W' p 79 #[xt, v, ys]
  below : Below B0 w W'
  row : ∀ {B e sz n : Nat} {x : Value} {xs : List Value}, wr.ownsRow B e sz x n xs → e ≠ 136 → e ≠ 79 → W'.ownsRow B e sz x n xs
  bx : ∀ {q : Nat} {t : TypeId} {cs : Array Value}, Bx wr q t cs → q ≠ p → 136 ≠ t → Bx W' q t cs
  map : ∀ {k e : TypeId} {z0 : Lit} {g n : Nat} {f : Int → Lit} {K : Int → Bool}, MapN Try.prog k e z0 wr g n f K → MapN Try.prog k e z0 W' g n f K
theorem PushO.t {wr W' w : World} {B0 p : Nat} {v xt ys : Value} {L : List Ob} {o : Ob} (h : PushO wr W' w B0 p v xt ys L o) {B : Nat} {x : Value} {T : List (List UInt8)} (hT : OwnT wr B x T) : OwnT W' B x T := by
  obtain ⟨vs, a1, a2, a4⟩ := hT
  exact ⟨vs, a1, h.row a2 (by decide) (by decide), fun i x l h5 h6 => h.row (a4 i x l h5 h6) (by decide) (by decide)⟩
theorem pushO {w wr W1 W3 : World} {B0 p n : Nat} {ot y v xt ys : Value} {vs : List Value} {L : List Ob} {o : Ob}
    (z1 : vs.length = L.length) (z2 : wr.ownsRow B0 136 2 ot L.length (obC L vs)) (z4 : ∀ (i : Nat) x l, vs[i]? = some x → L[i]? = some l → OwnW wr B0 34 x l.fs)
    (z5 : ∀ (i j : Nat) x y, i ≠ j → vs[i]? = some x → vs[j]? = some y → x.ownBlock = none ∨ x.ownBlock ≠ y.ownBlock)
    (oy : OwnW W1 wr.heap.size 34 y o.fs) (b1 : Below wr.heap.size wr W1) (hown : W3.ownsRow B0 136 2 v n (obC L vs ++ [i64 o.ty, y])) (hgr : (W1.alloc (.cells #[i64 o.ty, y] 136)).grownBy W3 ot.ownBlock)
    (q3 : Bx wr p 79 #[xt, ot, ys]) (B : Below B0 w wr) (hB : B0 ≤ wr.heap.size) (hp : B0 ≤ p) :
    (W3.cell? ⟨p, 1, none⟩ = some ot ∧ W3.frozen? ⟨p, 1, none⟩ = false) ∧ PushO wr (W3.setCell ⟨p, 1, none⟩ v) w B0 p v xt ys L o := by
  have b2 : Below wr.heap.size wr (W1.alloc (.cells #[i64 o.ty, y] 136)) := b1.alloc b1.size _
  have z2' := own_below z2 b2
  have nx := fun {g : Nat} {cs : Array Value} (hq : Bx (W1.alloc (.cells #[i64 o.ty, y] 136)) g 79 cs) => Bx.grown hq hgr (own_not_bx z2' hq (by decide))
  have r3 := nx (q3.below b2)
  have oO : OwnO W3 B0 v (L ++ [o]) := OwnO.snoc z1 z2' hown (fun i x l h5 h6 => OwnW.below (z4 i x l h5 h6) b2) z5 (OwnW.below (own_mono oy hB) ((Below.refl _ W1).alloc (Nat.le_refl _) _))
    (fun i x hx => own_ne (z4 i x _ hx (List.getElem?_eq_getElem (by have := (List.getElem?_eq_some_iff.1 hx).1; omega))) oy (Nat.le_refl _)) hgr
  have B3 : Below B0 w W3 := (B.trans (b2.mono hB)).grown hgr (Nat.le_trans hB b2.size) (fun k hk => (z2'.lt k hk).1)
  refine ⟨⟨r3.cell 1, r3.free 1⟩, oO.set r3 (by decide) (by decide), ?_, B3.setCell (p := ⟨p, 1, none⟩) hp _, ?_, ?_, ?_⟩
  · have := r3.set (i := 1) v
    simpa using this
  · intro B e sz n x xs h h1 h2
    exact own_set (World.ownsRow.kept (own_below h b2) hgr (own_unlike (own_below h b2) z2' h1)) r3 h2
  · intro q t cs h h1 h2
    exact ((h.below b2).grown hgr (own_not_bx z2' (h.below b2) h2)).far (p := ⟨p, 1, none⟩) h1 _
  · intro k e z0 g n f K h
    have h2 := h.below b2
    obtain ⟨es, ck, hm⟩ := h2.mapL.block
    have h3 := h2.kept hgr (fun e => by
      rcases own_ne_map z2' hm with h | h
      · rw [h] at e; cases e
      · exact h e.symm)
    obtain ⟨es', ck', hm'⟩ := h3.mapL.block
    exact h3.kept (grown_set _ ⟨p, 1, none⟩ _) (fun e => r3.ne_map hm' (by injection e))
theorem OwnM.slotsE {w W : World} {B E g n c : Nat} {tv ov : Value} {m : Mo} {S : List Sl} (h : OwnM w B E tv ov (.slice (some ⟨g, 0, none⟩) n c) m) (hg : w.grownBy W (some g)) (hS : OwnS W B E (.slice (some ⟨g, 0, none⟩) n c) S) (h1 : 44 ≠ E) (h2 : 5 ≠ E) (h3 : 136 ≠ E) (h4 : 34 ≠ E) :
    OwnM W B E tv ov (.slice (some ⟨g, 0, none⟩) n c) ⟨m.types, m.objs, S⟩ := by
  refine ⟨OwnT.kept h.t h.s hg h1 h2, ?_, hS⟩
  obtain ⟨vs, a1, a2, a4, a5⟩ := h.o
  exact ⟨vs, a1, World.ownsRow.kept a2 hg (own_unlike a2 h.s h3), fun i x l h5 h6 => World.ownsRow.kept (a4 i x l h5 h6) hg (own_unlike (a4 i x l h5 h6) h.s h4), a5⟩
theorem OwnM.set3E {w : World} {B E p : Nat} {tv ov sv a b c : Value} {m : Mo} {cs : Array Value} (h : OwnM w B E tv ov sv m) (hg : Bx w p 79 cs) (hE : E ≠ 79) :
    OwnM (((w.setCell ⟨p, 0, none⟩ a).setCell ⟨p, 1, none⟩ b).setCell ⟨p, 2, none⟩ c) B E tv ov sv m := by
  have st : ∀ {w : World} {cs : Array Value} {i : Nat} {u : Value}, OwnM w B E tv ov sv m → Bx w p 79 cs → OwnM (w.setCell ⟨p, i, none⟩ u) B E tv ov sv m := fun h hg => ⟨h.t.set hg (by decide) (by decide), h.o.set hg (by decide) (by decide), own_set h.s hg hE⟩
  exact st (st (st h hg) (hg.set a)) ((hg.set a).set b)
/-- the number of the object at an address, or 0 -/
def numI (O : List Hb) (a : Int) : Int := match idx O a with | some i => (i : Int) | none => 0
theorem numI_idxI {O : List Hb} {a : Int} (h : IsObj O a) : numI O a = idxI O a := by
  obtain ⟨i, b, h1, _⟩ := idx_of h
  unfold numI idxI; rw [h1]
theorem numI_rng {O : List Hb} {a : Int} (h : O.length ≤ 960) : 0 ≤ numI O a ∧ numI O a ≤ 960 := by
  unfold numI
  cases h2 : idx O a with
  | none => exact ⟨Int.le_refl _, by decide⟩
  | some i =>
    obtain ⟨b, h3, _⟩ := idx_some h2
    have := (List.getElem?_eq_some_iff.1 h3).1
    show 0 ≤ (i : Int) ∧ (i : Int) ≤ 960
    exact ⟨by omega, by omega⟩
theorem numI_snoc {O : List Hb} {b : Hb} {a : Int} (hb : ¬ IsObj O b.at_) : numI (O ++ [b]) a = if a = b.at_ then (O.length : Int) else numI O a := by
  unfold numI
  rw [idx_app]
  by_cases h : a = b.at_
  · subst h
    rw [if_pos rfl, idx_none.2 hb, idx, if_pos rfl]
    show ((0 + O.length : Nat) : Int) = _
    omega
  · rw [if_neg h]
    cases idx O a with
    | some i => rfl
    | none => rw [idx, if_neg (fun e => h e.symm), idx]; rfl
theorem objs_new {l : List UInt64} (h : allErr l = 0) {j : Nat} {b : Hb} (hb : (allL l)[j]? = some b) : ¬ IsObj (objs ((allL l).take j)) b.at_ := by
  rintro ⟨c, hc, e⟩
  obtain ⟨hc1, _⟩ := objs_mem.1 hc
  obtain ⟨i, hi⟩ := List.getElem?_of_mem hc1
  have hi1 := (List.getElem?_eq_some_iff.1 hi).1
  rw [List.length_take] at hi1
  rw [List.getElem?_take_of_lt (by omega)] at hi
  have hp := List.pairwise_iff_getElem.1 (chain_apart (chain_iff.1 (parsed_ok.1 (allErr_ok h).2).1)).2
  obtain ⟨i1, i2⟩ := List.getElem?_eq_some_iff.1 hi
  obtain ⟨j1, j2⟩ := List.getElem?_eq_some_iff.1 hb
  have := hp i j i1 j1 (by omega)
  rw [i2, j2] at this
  obtain ⟨x, _, _, hs, h4, _⟩ := all_mem h (List.mem_of_getElem? hi)
  have hz := szN_ge hs
  have : c.size = szN l x := by rw [h4]; exact stand_size hs
  omega
theorem inKinds {l : List UInt64} (rt : Rt l) {b : Hb} (hb : b ∈ O19 l) : ∃ (a q : Nat) (t : List UInt8), b.at_ = a ∧ b.ty = q ∧ (T19 l)[q]? = some t ∧ kindsB (T19 l) b = t ∧ 128 ≤ a ∧ a ≤ 2048 ∧ a + 2 + t.length ≤ l.length ∧ t.length ≤ 8 := by
  have hty : Typed (T19 l) b := rt.good 8 (by omega) (by omega) b hb
  obtain ⟨a, q, t, ha, hq, hTq, hkB, _, hle, _⟩ := in_kinds (in19_of rt.al hb) hty
  have hkE : kErr t = 0 := (T19_ok rt.ty).2 t (List.mem_of_getElem? hTq)
  obtain ⟨a', h1, h2, h3, h4, _⟩ := objs_at rt.al hb
  have := rt.sz.2.1
  exact ⟨a, q, t, ha, hq, hTq, hkB, by omega, by omega, hle, (kErr_ok hkE).1⟩
end Go.Proofs.Ytbfmdbeeiicabaa
namespace Go.Proofs.Ytbfmdbeeiicabaa.L19
open L02 L05 L06 L07 L13 L14 L15 L18
/-- blocks laid one behind the other, as far as there is room -/
def laidF (n : Nat) : List UInt64 → Nat → List Hb → List UInt64
  | l, _, [] => l
  | l, a, b :: L => if (a : Int) + b.size ≤ n then laidF n ((l.set a (L14.word b)).set (a + 1) b.next) (a + b.size.toNat) L else l
def laid (n : Nat) (L : List Hb) : List UInt64 := laidF n (List.replicate n 0) 128 L
end Go.Proofs.Ytbfmdbeeiicabaa.L19
namespace Go.Proofs.Ytbfmdbeeiicabaa
open Go.RowKit L01 L02 L05 L14 L15
/-- a word of a slice of the call's own -/
theorem OwnW.at_ {w : World} {base : Nat} {v : Value} {l : List UInt64} (h : OwnW w base 34 v l) {k : Nat} (hk : k < l.length) :
    ∃ ad, (∀ W, (Instr.indexAt 22 v (.int .i64 (k : Int))).run Try.prog W = .ok (.pointer (some ad)) W) ∧ w.cell? ad = some (.int .u64 (l.getD k 0).toNat) ∧ w.frozen? ad = false ∧ base ≤ ad.block ∧ v.ownBlock = some ad.block ∧ ∀ x : UInt64, OwnW (w.setCell ad (.int .u64 x.toNat)) base 34 v (l.set k x) := by
  obtain ⟨g, cap, cur, rfl, hB, hg, hnc, hcm, hcs, htake⟩ := own_form h (by omega)
  have hrd := Rd.of_own h
  have hix := fun W => Rd.ixN hrd Try.underlying22 one_u64 hk W
  have hcell := Rd.cell hrd (j := k) (u := .int .u64 (l.getD k 0).toNat) (by rw [List.getElem?_map, List.getElem?_eq_getElem hk, List.getD_eq_getElem?_getD, List.getElem?_eq_getElem hk]; rfl)
  have e1 : cellAt (.slice (some ⟨g, 0, none⟩) l.length cap) (k * 1) = ⟨g, k, none⟩ := by simp [cellAt]
  have e2 : cellAt (.slice (some ⟨g, 0, none⟩) l.length cap) k = ⟨g, k, none⟩ := by simp [cellAt]
  rw [e2] at hcell
  exact ⟨⟨g, k, none⟩, fun W => by rw [← e1]; exact hix W, hcell, World.ownsRow.frozenAt h k, hB, rfl, fun x => OwnW.set (World.ownsRow.stored h k _).1⟩
end Go.Proofs.Ytbfmdbeeiicabaa
namespace Go.Proofs.Ytbfmdbeeiicabaa
open Go.RowKit L01 L02 L05 L06 L07 L13 L14 L15 L18 L19 L20
theorem plain_i64 {a : Int} (h : i64Ok a) : plainElem (H := Unit) Try.prog 3 (.int .i64 a) = some (.lit (.int .i64 a), []) := plainElem_int Try.underlying3 (lit_wf h)
theorem zero_int (W : World) : (zeroValue 3).run Try.prog W = .ok (.int .i64 0) W := by kernel_rfl
theorem MapN.congr {P : Program} {k e : TypeId} {z0 : Lit} {W : World} {g n n' : Nat} {f f' : Int → Lit} {K K' : Int → Bool} (h : MapN P k e z0 W g n f K) (hn : n = n') (hf : ∀ a, f a = f' a) (hK : ∀ a, K a = K' a) : MapN P k e z0 W g n' f' K' := by
  have e1 : f = f' := funext hf
  have e2 : K = K' := funext hK
  rw [← hn, ← e1, ← e2]; exact h
theorem mix_get {α : Type} {A R : List α} {p : Nat} {x y : α} (hA : A[p]? = some x) (hR : R[p]? = some y) : (A.take p ++ R.drop p)[p]? = some y := by
  have h1 := (List.getElem?_eq_some_iff.1 hA).1
  rw [List.getElem?_append_right (by rw [List.length_take]; omega), List.length_take, Nat.min_eq_left (by omega), Nat.sub_self, List.getElem?_drop, Nat.add_zero, hR]
theorem mix_set {α : Type} {A R : List α} {p : Nat} {x y : α} (hA : A[p]? = some x) (hR : R[p]? = some y) : (A.take p ++ R.drop p).set p x = A.take (p + 1) ++ R.drop (p + 1) := by
  have h1 := (List.getElem?_eq_some_iff.1 hA).1
  have h2 := (List.getElem?_eq_some_iff.1 hR).1
  rw [List.set_append_right _ _ (by rw [List.length_take]; omega), List.length_take, Nat.min_eq_left (by omega), Nat.sub_self, List.drop_eq_getElem_cons h2, List.set_cons_zero, List.take_add_one, hA]
  simp
theorem mix_same {α : Type} {A R : List α} {p : Nat} {x : α} (hA : A[p]? = some x) (hR : R[p]? = some x) : A.take (p + 1) ++ R.drop (p + 1) = A.take p ++ R.drop p := by
  have h2 := (List.getElem?_eq_some_iff.1 hR)
  rw [List.take_add_one, hA, show R.drop p = x :: R.drop (p + 1) by rw [List.drop_eq_getElem_cons h2.1, h2.2]]
  simp
set_option maxRecDepth 100000 in
set_option maxHeartbeats 16000000 in
theorem OfM_any (v : Value) (l : List UInt64) (m : Mo) (r : Int) (hm : m = ofM l) (hr : r = chk19 l) (w : World) (h : Words w v l) :
    Calls Try.prog 42 #[v] w fun e w' => ∃ t' o' s', e = .returned (.tuple #[.agg #[t', o', s'], .int .i64 r]) ∧ OwnM w' w.heap.size 127 t' o' s' m ∧ Below w.heap.size w w' := by
  have B : Below w.heap.size w w := Below.refl _ _
  have H := Lib.hid h
  have CK := Lib.hid (fun w h => Check19_any v l r hr w h)
  by_cases h0 : r = 0
  case neg =>
    have hm0 : m = .nil := by rw [hm, ofM, if_neg (by rw [← hr]; exact h0)]
    subst hm0
    have n1 : (r != 0) = true := by rw [bne_iff_ne]; exact h0
    clear hm hr h h0
    go_enter Try.func42, Try.ntmps42
    go_upto_region 1 with (fail)
    refine wp_gen (fun Wv => Bx Wv (w.heap.size) (79) (#[.slice none 0 0, .slice none 0 0, .slice none 0 0]) ∧ Below w.heap.size w Wv) ⟨((Bx.at_ (by simp))), ((Below.refl _ w).alloc (by simp <;> omega) _)⟩ ?_
    rintro wa1 ⟨g1, b⟩
    replace B := B.trans (b.mono B.size); clear b
    have c_g1 := g1.cell; have f_g1 := g1.free; have a_g1 := fun o => (g1.alloc o).cell; have d_g1 := fun o o2 => ((g1.alloc o).alloc o2).cell; have e_g1 := fun o => (g1.alloc o).free
    go_wp2_with fail
    refine (CK.out _ (H.out.below B)).mono ?_
    rintro e wa2 ⟨rfl, b⟩
    try clear c_g1 f_g1 a_g1 d_g1 e_g1
    replace g1 := g1.below b; have c_g1 := g1.cell; have f_g1 := g1.free; have a_g1 := fun o => (g1.alloc o).cell; have d_g1 := fun o o2 => ((g1.alloc o).alloc o2).cell; have e_g1 := fun o => (g1.alloc o).free; replace B := B.trans (b.mono B.size); clear b
    go_wp2
    refine bodyPost_ret (v := .tuple #[.agg #[.slice none 0 0, .slice none 0 0, .slice none 0 0], .int .i64 r]) (by simp [results, Try.results42, go_sem, c_g1, f_g1]) rfl ?_
    refine ⟨_, _, _, rfl, ⟨OwnT.nil _ _, OwnO.nil _ _, OwnS.nil _ _ _⟩, ?_⟩
    exact ((B.setCell (p := ⟨w.heap.size, 0, none⟩) (by simp) _).setCell (p := ⟨w.heap.size, 1, none⟩) (by simp) _).setCell (p := ⟨w.heap.size, 2, none⟩) (by simp) _
  case pos =>
    subst h0
    have rt : Rt l := Rt.of hr.symm
    obtain ⟨T, hT⟩ : ∃ T, T = T19 l := ⟨_, rfl⟩
    obtain ⟨S, hS⟩ : ∃ S, S = slots l := ⟨_, rfl⟩
    obtain ⟨L, hL⟩ : ∃ L, L = allL l := ⟨_, rfl⟩
    obtain ⟨O, hO⟩ : ∃ O, O = O19 l := ⟨_, rfl⟩
    have hOL : O = objs L := by rw [hO, hL]; rfl
    obtain ⟨sw, hsw⟩ : ∃ x, x = sW l := ⟨_, rfl⟩
    obtain ⟨st, hst⟩ : ∃ x, x = sT l := ⟨_, rfl⟩
    obtain ⟨i0, hi0⟩ : ∃ x, x = is0 l := ⟨_, rfl⟩
    obtain ⟨i1, hi1⟩ : ∃ x, x = is1 l := ⟨_, rfl⟩
    have T3 := Lib.hid (fun w h => TRead_any v l sw st i0 i1 0 hsw hst hi0 hi1 rt.tw.symm w h)
    have KT := Lib.hid (fun w h => KTable_any v l st T 0 (by rw [hT, hst]; rfl) (by rw [hst]; exact rt.ty.symm) w h)
    have AT := Lib.hid (fun w h => All18_own v l S hS rt.sl w h)
    have WT := Lib.hid (fun w h => AllW_any v l L 0 hL rt.al.symm w h)
    have hm2 : m = ⟨T, O.map (obOf l T O), S.map (slOf O)⟩ := by rw [hm, ofM, if_pos hr.symm]; unfold L19.seen; rw [hT, hO, hS]
    subst hm2
    have hO9 : O.length ≤ 960 := by rw [hO]; exact objs_len rt.al
    have hL9 : L.length ≤ 960 := by rw [hL]; exact all_len rt.al
    have hS16 : S.length = 16 := by rw [hS]; exact slots_len' rt.sl
    obtain ⟨N, hN⟩ : ∃ N, N = L.length := ⟨_, rfl⟩
    have hN9 : N ≤ 960 := by omega
    have hab : ∀ b ∈ L, 0 ≤ b.at_ ∧ b.at_ ≤ 1000000 := fun b hb => by
      rw [hL] at hb
      obtain ⟨x, h1, h2, _, h4, _⟩ := all_mem rt.al hb
      have := rt.sz.2.1
      have : b.at_ = x := by rw [h4]; rfl
      omega
    have HRT := Lib.hid rt; have HT := Lib.hid hT; have HS := Lib.hid hS; have HO := Lib.hid hO; have HOL := Lib.hid hOL; have HN := Lib.hid hN; have HO9 := Lib.hid hO9; have HS16 := Lib.hid hS16; have HL := Lib.hid hL; have HAB := Lib.hid hab
    have hmm := @run_makeMap Try.prog
    clear h rt hT hS hL hO hOL hO9 hL9 hS16 hN hm hr hsw hst hi0 hi1 hab
    go_enter Try.func42, Try.ntmps42
    go_upto_region 1 with (fail)
    refine wp_gen (fun Wv => Bx Wv (w.heap.size) (79) (#[.slice none 0 0, .slice none 0 0, .slice none 0 0]) ∧ Below w.heap.size w Wv) ⟨((Bx.at_ (by simp))), ((Below.refl _ w).alloc (by simp <;> omega) _)⟩ ?_
    rintro wa1 ⟨g1, b⟩
    replace B := B.trans (b.mono B.size); clear b
    have c_g1 := g1.cell; have f_g1 := g1.free; have a_g1 := fun o => (g1.alloc o).cell; have d_g1 := fun o o2 => ((g1.alloc o).alloc o2).cell; have e_g1 := fun o => (g1.alloc o).free
    have hz1 := B.size; have hp1 := g1.lt
    go_wp2_with fail
    refine (CK.out _ (H.out.below B)).mono ?_
    rintro e wa2 ⟨rfl, b⟩
    try clear c_g1 f_g1 a_g1 d_g1 e_g1
    replace g1 := g1.below b; have c_g1 := g1.cell; have f_g1 := g1.free; have a_g1 := fun o => (g1.alloc o).cell; have d_g1 := fun o o2 => ((g1.alloc o).alloc o2).cell; have e_g1 := fun o => (g1.alloc o).free; replace B := B.trans (b.mono B.size); clear b
    go_wp2_with fail
    refine (T3.out _ (H.out.below B)).mono ?_
    rintro e wa3 ⟨rfl, b⟩
    try clear c_g1 f_g1 a_g1 d_g1 e_g1
    replace g1 := g1.below b; have c_g1 := g1.cell; have f_g1 := g1.free; have a_g1 := fun o => (g1.alloc o).cell; have d_g1 := fun o o2 => ((g1.alloc o).alloc o2).cell; have e_g1 := fun o => (g1.alloc o).free; replace B := B.trans (b.mono B.size); clear b
    have hz3 := B.size
    go_upto_region 5 with (fail)
    refine wp_gen (fun Wv => Bx Wv (wa3.heap.size) (60) (#[.int .i64 sw, .int .i64 st]) ∧ Below wa3.heap.size wa3 Wv) ⟨(((Bx.at_ (by simp)).alloc _)), (((Below.refl _ wa3).alloc (by simp <;> omega) _).alloc (by simp <;> omega) _)⟩ ?_
    rintro wa4 ⟨g2, b⟩
    try clear c_g1 f_g1 a_g1 d_g1 e_g1
    replace g1 := g1.below b; have c_g1 := g1.cell; have f_g1 := g1.free; have a_g1 := fun o => (g1.alloc o).cell; have d_g1 := fun o o2 => ((g1.alloc o).alloc o2).cell; have e_g1 := fun o => (g1.alloc o).free; replace B := B.trans (b.mono B.size); clear b
    have c_g2 := g2.cell; have f_g2 := g2.free; have a_g2 := fun o => (g2.alloc o).cell; have d_g2 := fun o o2 => ((g2.alloc o).alloc o2).cell; have e_g2 := fun o => (g2.alloc o).free
    have hz4 := B.size
    go_wp2_with fail
    refine (KT.out _ (H.out.below B)).mono ?_
    rintro e wa5 ⟨xt, rfl, ot, b⟩
    try clear c_g1 f_g1 a_g1 d_g1 e_g1
    replace g1 := g1.below b; have c_g1 := g1.cell; have f_g1 := g1.free; have a_g1 := fun o => (g1.alloc o).cell; have d_g1 := fun o o2 => ((g1.alloc o).alloc o2).cell; have e_g1 := fun o => (g1.alloc o).free; try clear c_g2 f_g2 a_g2 d_g2 e_g2
    replace g2 := g2.below b; have c_g2 := g2.cell; have f_g2 := g2.free; have a_g2 := fun o => (g2.alloc o).cell; have d_g2 := fun o o2 => ((g2.alloc o).alloc o2).cell; have e_g2 := fun o => (g2.alloc o).free; replace B := B.trans (b.mono B.size); clear b
    have hz5 := B.size
    obtain ⟨tA, tn, tc, rfl⟩ := form_T ot
    clear c_g2 f_g2 a_g2 d_g2 e_g2
    clear g2
    go_wp2_with fail
    refine (AT.out _ (H.out.below B)).mono ?_
    rintro e wa6 ⟨xs, rfl, os, b⟩
    try clear c_g1 f_g1 a_g1 d_g1 e_g1
    replace g1 := g1.below b; have c_g1 := g1.cell; have f_g1 := g1.free; have a_g1 := fun o => (g1.alloc o).cell; have d_g1 := fun o o2 => ((g1.alloc o).alloc o2).cell; have e_g1 := fun o => (g1.alloc o).free; replace ot := ot.below b; replace B := B.trans (b.mono B.size); clear b
    have hz6 := B.size
    obtain ⟨gS, sc, rfl⟩ : ∃ g c, xs = .slice (some ⟨g, 0, none⟩) 16 c := by obtain ⟨g, n, c, e, e2⟩ := os.form (by rw [HS16.out]; omega); rw [e2, HS16.out] at e; exact ⟨g, c, e⟩
    go_wp2_with fail
    refine (WT.out _ (H.out.below B)).mono ?_
    rintro e wa7 ⟨xl, rfl, ol, b⟩
    try clear c_g1 f_g1 a_g1 d_g1 e_g1
    replace g1 := g1.below b; have c_g1 := g1.cell; have f_g1 := g1.free; have a_g1 := fun o => (g1.alloc o).cell; have d_g1 := fun o o2 => ((g1.alloc o).alloc o2).cell; have e_g1 := fun o => (g1.alloc o).free; replace ot := ot.below b; replace os := os.below b; replace B := B.trans (b.mono B.size); clear b
    have hz7 := B.size
    obtain ⟨lA, ln, lc, rfl⟩ : ∃ A n c, xl = .slice A n c := row_form ol
    go_upto_region 10 with (fail)
    have hp7 := g1.lt
    have hp5 : w.heap.size + 1 ≤ wa7.heap.size := hp7
    have HPK := Lib.hid (show OwnT wa7 w.heap.size (.slice tA tn tc) T ∧ OwnS wa7 w.heap.size 127 (.slice (some ⟨gS, 0, none⟩) 16 sc) S ∧ OwnK wa7 w.heap.size (.slice lA ln lc) L ∧ Bx wa7 w.heap.size 79 #[.slice none 0 0, .slice none 0 0, .slice none 0 0] ∧ Below w.heap.size w wa7 from ⟨ot.mono (by omega), own_mono os (by omega), ol.mono (by omega), g1, B⟩)
    clear ot os ol g1 B hz1 hp1 hz3 hz4 hz5 hz6 hz7 hp7 c_g1 f_g1 a_g1 d_g1 e_g1
    refine wp_gen (fun V => OwnT V w.heap.size (.slice tA tn tc) T ∧ OwnS V w.heap.size 127 (.slice (some ⟨gS, 0, none⟩) 16 sc) S ∧ OwnK V w.heap.size (.slice lA ln lc) L ∧ Bx V w.heap.size 79 #[.slice none 0 0, .slice none 0 0, .slice none 0 0] ∧ Bx V wa7.heap.size 79 #[.slice tA tn tc, .slice none 0 0, .slice (some ⟨gS, 0, none⟩) 16 sc] ∧
      MapN Try.prog 3 3 (.int .i64 0) V (wa7.heap.size + 1) (objs (L.take 0)).length (fun a => .int .i64 (numI (objs (L.take 0)) a)) (fun a => decide (IsObj (objs (L.take 0)) a)) ∧ Below w.heap.size w V) ?_ ?_
    · obtain ⟨k1, k2, k3, k4, k5⟩ := HPK.out
      have bb : Below wa7.heap.size wa7 ((wa7.alloc (.cells #[.slice tA tn tc, .slice none 0 0, .slice (some ⟨gS, 0, none⟩) 16 sc] 79)).alloc (.map #[] 0)) := ((Below.refl _ wa7).alloc (Nat.le_refl _) _).alloc (by simp) _
      refine ⟨k1.below bb, k2.below bb, k3.below bb, k4.below bb, (Bx.new wa7 _ _).alloc _, ?_, k5.trans (bb.mono k5.size)⟩
      have := MapN.made (P := Try.prog) (k := 3) (e := 3) (z0 := .int .i64 0) (wa7.alloc (.cells #[.slice tA tn tc, .slice none 0 0, .slice (some ⟨gS, 0, none⟩) 16 sc] 79))
      rw [show (wa7.alloc (.cells #[.slice tA tn tc, .slice none 0 0, .slice (some ⟨gS, 0, none⟩) 16 sc] 79)).heap.size = wa7.heap.size + 1 by simp] at this
      refine this.congr rfl (fun a => rfl) (fun a => ?_)
      symm
      rw [decide_eq_false_iff_not]
      rintro ⟨b, hb, _⟩
      simp [objs] at hb
    clear HPK hmm
    generalize wa7.heap.size = p5 at *
    generalize hpm : p5 + 1 = pm
    intro V0 hV0
    have HV := Lib.hid hV0
    clear hV0
    have lx := HV.out.2.2.1.rd.len
    rw [← HN.out] at lx
    go_wp2
    clear lx
    go_loopg [60] N (fun g i wr => ∃ j : Nat, j ≤ N ∧ g = N - j ∧ i = .int .i64 j ∧ Hid (OwnT wr w.heap.size (.slice tA tn tc) T ∧ OwnS wr w.heap.size 127 (.slice (some ⟨gS, 0, none⟩) 16 sc) S ∧ OwnK wr w.heap.size (.slice lA ln lc) L ∧ Bx wr w.heap.size 79 #[.slice none 0 0, .slice none 0 0, .slice none 0 0] ∧ Bx wr p5 79 #[.slice tA tn tc, .slice none 0 0, .slice (some ⟨gS, 0, none⟩) 16 sc] ∧
      MapN Try.prog 3 3 (.int .i64 0) wr pm (objs (L.take j)).length (fun a => .int .i64 (numI (objs (L.take j)) a)) (fun a => decide (IsObj (objs (L.take j)) a)) ∧ Below w.heap.size w wr))
    case atStart => exact ⟨0, by omega, by omega, rfl, HV⟩
    case round =>
      clear HV
      obtain ⟨j, hj, rfl, rfl, hh⟩ := hrel
      by_cases hlt : j < N
      · obtain ⟨oT, oS, oK, g1, g5, mp, B⟩ := hh.out
        obtain ⟨bb, oo, b, ia, m0, m1, m2, m3, m4, m5, hb, _⟩ := oK.rd.at_ (k := j) (by rw [← HN.out]; exact hlt)
        have htk : L.take (j + 1) = L.take j ++ [b] := by rw [List.take_add_one, hb.out]; rfl
        have hB0 := B.size
        by_cases hk : b.kind = 1
        · have k1 : (b.kind == 1) = true := by rw [beq_iff_eq]; exact hk
          have hob : objs (L.take (j + 1)) = objs (L.take j) ++ [b] := by rw [htk, objs_snoc, if_pos hk]
          have hnew : ¬ IsObj (objs (L.take j)) b.at_ := by rw [HL.out]; exact objs_new HRT.out.al (by rw [← HL.out]; exact hb.out)
          have hol : (objs (L.take j)).length ≤ j := Nat.le_trans (List.length_filter_le _ _) (by rw [List.length_take]; omega)
          obtain ⟨a1, a2⟩ := HAB.out b (List.mem_of_getElem? hb.out)
          have hia : i64Ok b.at_ := ⟨by omega, by omega⟩
          have hkf : decide (IsObj (objs (L.take j)) b.at_) = false := decide_eq_false hnew
          obtain ⟨Q, hQ⟩ : ∃ Q, Q = objs (L.take j) := ⟨_, rfl⟩
          rw [← hQ] at hol hkf mp hob hnew
          obtain ⟨qn, hqn⟩ : ∃ q, q = Q.length := ⟨_, rfl⟩
          rw [← hqn] at hol mp
          have HOB := Lib.hid hob; have HNEW := Lib.hid hnew; have HQN := Lib.hid hqn
          clear htk hk hob hnew hb hh hQ hqn
          go_upto_region 13 with (fail)
          refine wp_gen (fun Wv => Bx Wv (wr.heap.size) (38) (#[.int .i64 b.at_, .int .i64 b.size, .int .i64 b.kind, .int .i64 b.ty, .bool b.mark, .int .u64 b.next.toNat]) ∧ Below wr.heap.size wr Wv) ⟨((Bx.at_ (by simp))), ((Below.refl _ wr).alloc (by simp <;> omega) _)⟩ ?_
          rintro wa8 ⟨g7, b⟩
          replace oT := oT.below b; replace oS := oS.below b; replace oK := oK.below b; try clear c_g1 f_g1 a_g1 d_g1 e_g1
          replace g1 := g1.below b; have c_g1 := g1.cell; have f_g1 := g1.free; have a_g1 := fun o => (g1.alloc o).cell; have d_g1 := fun o o2 => ((g1.alloc o).alloc o2).cell; have e_g1 := fun o => (g1.alloc o).free; try clear c_g5 f_g5 a_g5 d_g5 e_g5
          replace g5 := g5.below b; have c_g5 := g5.cell; have f_g5 := g5.free; have a_g5 := fun o => (g5.alloc o).cell; have d_g5 := fun o o2 => ((g5.alloc o).alloc o2).cell; have e_g5 := fun o => (g5.alloc o).free; replace mp := mp.below b; replace B := B.trans (b.mono B.size); clear b
          have c_g7 := g7.cell; have f_g7 := g7.free; have a_g7 := fun o => (g7.alloc o).cell; have d_g7 := fun o o2 => ((g7.alloc o).alloc o2).cell; have e_g7 := fun o => (g7.alloc o).free
          have lm := mp.len Try.underlying134
          go_wp2_with (at_mapUpdate; refine wpList_mapPutN rfl rfl Try.underlying3 Try.underlying134 rfl rfl rfl mp (by unfold maxLen; omega) hia hkf (plain_i64 ⟨by omega, by omega⟩) ?_; intro w5 mp5 g5')
          obtain ⟨es, ck, hmb⟩ := mp.mapL.block
          have HZ := Lib.hid (show OwnT w5 w.heap.size (.slice tA tn tc) T ∧ OwnS w5 w.heap.size 127 (.slice (some ⟨gS, 0, none⟩) 16 sc) S ∧ OwnK w5 w.heap.size (.slice lA ln lc) L ∧ Bx w5 w.heap.size 79 #[.slice none 0 0, .slice none 0 0, .slice none 0 0] ∧ Bx w5 p5 79 #[.slice tA tn tc, .slice none 0 0, .slice (some ⟨gS, 0, none⟩) 16 sc] ∧
            MapN Try.prog 3 3 (.int .i64 0) w5 pm (objs (L.take (j + 1))).length (fun a => .int .i64 (numI (objs (L.take (j + 1))) a)) (fun a => decide (IsObj (objs (L.take (j + 1))) a)) ∧ Below w.heap.size w w5 from
            ⟨oT.keptM hmb g5', row_keptM oS hmb g5', row_keptM oK hmb g5', g1.keptM hmb g5', g5.keptM hmb g5', by
              rw [HOB.out]
              refine mp5.congr (by rw [List.length_append, ← HQN.out]; rfl) (fun a => ?_) (fun a => ?_)
              · rw [numI_snoc HNEW.out]
                by_cases e : a = b.at_
                · rw [if_pos e, if_pos e, HQN.out]
                · rw [if_neg e, if_neg e]
              · rw [Bool.eq_iff_iff, Bool.or_eq_true, decide_eq_true_iff, decide_eq_true_iff, decide_eq_true_iff, isObj_snoc], B.grown g5' B.size (fun k hk => by injection hk with hk; omega)⟩)
          clear oT oS oK g1 g5 mp mp5 g5' B lm hmb
          go_roundg (N - (j + 1))
          case measure => omega
          case rel => exact ⟨j + 1, by omega, rfl, by go_num, HZ⟩
        · have k1 : (b.kind == 1) = false := by rw [beq_eq_false_iff_ne]; exact hk
          have hob : objs (L.take (j + 1)) = objs (L.take j) := by rw [htk, objs_snoc, if_neg hk, List.append_nil]
          have HOB := Lib.hid hob
          clear htk hk hob hb hh
          go_upto_region 13 with (fail)
          refine wp_gen (fun Wv => Bx Wv (wr.heap.size) (38) (#[.int .i64 b.at_, .int .i64 b.size, .int .i64 b.kind, .int .i64 b.ty, .bool b.mark, .int .u64 b.next.toNat]) ∧ Below wr.heap.size wr Wv) ⟨((Bx.at_ (by simp))), ((Below.refl _ wr).alloc (by simp <;> omega) _)⟩ ?_
          rintro wa9 ⟨g7, b⟩
          replace oT := oT.below b; replace oS := oS.below b; replace oK := oK.below b; try clear c_g1 f_g1 a_g1 d_g1 e_g1
          replace g1 := g1.below b; have c_g1 := g1.cell; have f_g1 := g1.free; have a_g1 := fun o => (g1.alloc o).cell; have d_g1 := fun o o2 => ((g1.alloc o).alloc o2).cell; have e_g1 := fun o => (g1.alloc o).free; try clear c_g5 f_g5 a_g5 d_g5 e_g5
          replace g5 := g5.below b; have c_g5 := g5.cell; have f_g5 := g5.free; have a_g5 := fun o => (g5.alloc o).cell; have d_g5 := fun o o2 => ((g5.alloc o).alloc o2).cell; have e_g5 := fun o => (g5.alloc o).free; replace mp := mp.below b; replace B := B.trans (b.mono B.size); clear b
          have c_g7 := g7.cell; have f_g7 := g7.free; have a_g7 := fun o => (g7.alloc o).cell; have d_g7 := fun o o2 => ((g7.alloc o).alloc o2).cell; have e_g7 := fun o => (g7.alloc o).free
          have HZ := Lib.hid (And.intro oT (And.intro oS (And.intro oK (And.intro g1 (And.intro g5 (And.intro mp B))))))
          rw [← HOB.out] at HZ
          go_wp2
          go_roundg (N - (j + 1))
          case measure => omega
          case rel => exact ⟨j + 1, by omega, rfl, by go_num, HZ⟩
      · obtain rfl : j = N := by omega
        have htk : L.take j = L := List.take_of_length_le (by rw [← HN.out]; exact Nat.le_refl _)
        rw [htk, ← HOL.out] at hh
        clear htk
        obtain ⟨oT, oS, oK, g1, g5, mp, B⟩ := hh.out
        have HV := Lib.hid (show OwnT wr w.heap.size (.slice tA tn tc) T ∧ OwnO wr w.heap.size (.slice none 0 0) ((objs (L.take 0)).map (obOf l T O)) ∧ OwnS wr w.heap.size 127 (.slice (some ⟨gS, 0, none⟩) 16 sc) S ∧ OwnK wr w.heap.size (.slice lA ln lc) L ∧ Bx wr w.heap.size 79 #[.slice none 0 0, .slice none 0 0, .slice none 0 0] ∧ Bx wr p5 79 #[.slice tA tn tc, (.slice none 0 0), .slice (some ⟨gS, 0, none⟩) 16 sc] ∧ MapN Try.prog 3 3 (.int .i64 0) wr pm O.length (fun a => .int .i64 (numI O a)) (fun a => decide (IsObj O a)) ∧ Below w.heap.size w wr from ⟨oT, OwnO.nil _ _, oS, oK, g1, g5, mp, B⟩)
        have lx := oK.rd.len
        rw [← HN.out] at lx
        clear hh oT oS oK g1 g5 mp B
        go_wp2
        clear lx
        go_loopg [75] j (fun g i wr => ∃ j2 : Nat, j2 ≤ j ∧ g = j - j2 ∧ i = .int .i64 j2 ∧ Hid (∃ ov, OwnT wr w.heap.size (.slice tA tn tc) T ∧ OwnO wr w.heap.size ov ((objs (L.take j2)).map (obOf l T O)) ∧ OwnS wr w.heap.size 127 (.slice (some ⟨gS, 0, none⟩) 16 sc) S ∧ OwnK wr w.heap.size (.slice lA ln lc) L ∧ Bx wr w.heap.size 79 #[.slice none 0 0, .slice none 0 0, .slice none 0 0] ∧ Bx wr p5 79 #[.slice tA tn tc, ov, .slice (some ⟨gS, 0, none⟩) 16 sc] ∧ MapN Try.prog 3 3 (.int .i64 0) wr pm O.length (fun a => .int .i64 (numI O a)) (fun a => decide (IsObj O a)) ∧ Below w.heap.size w wr))
        case atStart => exact ⟨0, by omega, by omega, rfl, Lib.hid ⟨_, HV.out⟩⟩
        case round =>
          clear HV
          obtain ⟨j2, hj2, rfl, rfl, hh⟩ := hrel
          by_cases hlt2 : j2 < j
          · obtain ⟨ov, oT, oO, oS, oK, g1, g5, mp, B⟩ := hh.out
            obtain ⟨wn, hwn⟩ : ∃ W, W = wr := ⟨_, rfl⟩
            subst hwn
            obtain ⟨bb, oo, b, ia, m0, m1, m2, m3, m4, m5, hb, _⟩ := oK.rd.at_ (k := j2) (by rw [← HN.out]; exact hlt2)
            have htk : L.take (j2 + 1) = L.take j2 ++ [b] := by rw [List.take_add_one, hb.out]; rfl
            have hB0 := B.size
            have HG := Lib.hid (And.intro oT (And.intro oO (And.intro oS (And.intro oK (And.intro g1 (And.intro g5 (And.intro mp B)))))))
            by_cases hk : b.kind = 1
            · have k1 : (b.kind == 1) = true := by rw [beq_iff_eq]; exact hk
              have k1' : (b.kind != 1) = false := by rw [bne_eq_false_iff_eq]; exact hk
              have hob : objs (L.take (j2 + 1)) = objs (L.take j2) ++ [b] := by rw [htk, objs_snoc, if_pos hk]
              have hbO : b ∈ O19 l := by rw [← HO.out, HOL.out]; exact objs_mem.2 ⟨List.mem_of_getElem? hb.out, hk⟩
              have hol : (objs (L.take j2)).length ≤ 960 := by have := HO9.out; have h1 : (objs (L.take j2)).length ≤ j2 := Nat.le_trans (List.length_filter_le _ _) (by rw [List.length_take]; omega); omega
              obtain ⟨a, q, t, ha, hq, hTq, hkB, ha1, ha2, hle, hn8⟩ := inKinds HRT.out hbO
              rw [← HT.out] at hTq hkB
              obtain ⟨nf, hnf⟩ : ∃ N, N = t.length := ⟨_, rfl⟩
              rw [← hnf] at hle hn8
              have hqT := (List.getElem?_eq_some_iff.1 hTq).1
              have hrf : RefsB l T O b := by rw [HT.out, HO.out]; exact HRT.out.good 11 (by omega) (by omega) b hbO
              have HOB := Lib.hid hob; have HTQ := Lib.hid hTq; have HKB := Lib.hid hkB; have HNF := Lib.hid hnf; have HQT := Lib.hid hqT; have HLE := Lib.hid hle; have HRF := Lib.hid hrf; have HOL9 := Lib.hid hol
              obtain ⟨bat, bsz, bkd, bty, bmk, bnx⟩ := b
              dsimp only at ha hq m0 m1 m2 m3 m4 m5 k1 k1'
              subst ha; subst hq
              clear hob htk hk hbO hTq hkB hnf hqT hle hrf hol hb hh
              clear oO oS oK g1 g5 mp
              clear oT
              have B1 : Below wn.heap.size wn wn := Below.refl _ _
              go_upto_region 19 with (fail)
              refine wp_gen (fun Wv => Bx Wv (wn.heap.size) (38) (#[.int .i64 a, .int .i64 bsz, .int .i64 bkd, .int .i64 q, .bool bmk, .int .u64 bnx.toNat]) ∧ Below wn.heap.size wn Wv) ⟨((Bx.at_ (by simp))), ((Below.refl _ wn).alloc (by simp <;> omega) _)⟩ ?_
              rintro wa10 ⟨g8, b⟩
              replace B1 := B1.trans (b.mono B1.size); replace B := B.trans (b.mono B.size); clear b
              have c_g8 := g8.cell; have f_g8 := g8.free; have a_g8 := fun o => (g8.alloc o).cell; have d_g8 := fun o o2 => ((g8.alloc o).alloc o2).cell; have e_g8 := fun o => (g8.alloc o).free
              obtain ⟨ad, yt, t2, iy, m3n, ht2, hby⟩ := HG.out.1.rd.at_ HQT.out
              have m3' := cell_later B1 m3n
              obtain rfl : t2 = t := by have := ht2.out; rw [HTQ.out] at this; injection this with e; exact e.symm
              have lx := Rd.len hby.out Try.underlying44
              rw [← HNF.out] at lx
              obtain ⟨dv, hcut, hW⟩ := (H.out.below B).cut (P := Try.prog) Try.underlying22 one_u64 (lo := (a : Int) + 2) (hi := (a : Int) + 2 + (nf : Int)) (by omega) (by omega) (by have := HLE.out; omega)
              obtain ⟨raw, hraw⟩ : ∃ m, m = (l.drop (a + 2)).take nf := ⟨_, rfl⟩
              rw [show ((a : Int) + 2 + (nf : Int)).toNat - ((a : Int) + 2).toNat = nf by omega, show ((a : Int) + 2).toNat = a + 2 by omega, ← hraw] at hW
              have hrl : raw.length = nf := by rw [hraw, List.length_take, List.length_drop]; have := HLE.out; omega
              have HRG := Lib.hid (show ∀ p, p < nf → raw[p]? = some (fw l ⟨(a : Int), bsz, bkd, (q : Int), bmk, bnx⟩ p) from fun p hp => by
                have h1 := HLE.out
                rw [hraw, List.getElem?_take_of_lt hp, List.getElem?_drop]
                unfold fw
                rw [Int.toNat_natCast, List.getD_eq_getElem?_getD, List.getElem?_eq_getElem (by omega)]; rfl)
              have HRL := Lib.hid hrl; have HW := Lib.hid hW
              have w1 : IntKind.i64.wrap ((a : Int) + 2) = (a : Int) + 2 := IntWalk.i64_in _ (by omega)
              have w2 : IntKind.i64.wrap ((a : Int) + 2 + (nf : Int)) = (a : Int) + 2 + (nf : Int) := IntWalk.i64_in _ (by omega)
              have HBY := Lib.hid hby.out
              have hB1 := B1.size
              clear ht2 hby hrl hraw hW m3n f_g8 a_g8 d_g8 e_g8
              go_upto_region 20 with (fail)
              refine wp_region_qtail 15 (by kernel_rfl) (by kernel_rfl) ?_
              simp only [List.take_succ_cons, List.take_zero, List.drop_succ_cons, List.drop_zero]
              iterate 15 (go_big_quiet_step (fail))
              refine wpQuiet_nil ?_
              go_wp2_with fail
              refine (CloneW_any dv raw (by rw [HRL.out]; omega) _ (HW.out.drew)).mono ?_
              rintro e wc ⟨y, rfl, oy, bC⟩
              obtain ⟨yA, yn, yc, rfl⟩ : ∃ A n c, y = .slice A n c := by obtain ⟨A, c, e⟩ := own_form' oy; exact ⟨A, _, c, e⟩
              have m3c := cell_later ((Below.refl _ _).drew.trans bC) m3'
              have g8c := (show Bx (World.drew _) wn.heap.size 38 #[.int .i64 a, .int .i64 bsz, .int .i64 bkd, .int .i64 q, .bool bmk, .int .u64 bnx.toNat] from g8).below bC
              have HC := Lib.hid (show OwnW wc wn.heap.size 34 (.slice yA yn yc) raw ∧ Bx wc wn.heap.size 38 #[.int .i64 a, .int .i64 bsz, .int .i64 bkd, .int .i64 q, .bool bmk, .int .u64 bnx.toNat] ∧ Below wn.heap.size wn wc from ⟨own_mono oy hB1, g8c, B1.drew.trans (bC.mono hB1)⟩)
              have c_8 := g8c.cell
              obtain ⟨A, hA⟩ : ∃ A, A = obFs l T O ⟨(a : Int), bsz, bkd, (q : Int), bmk, bnx⟩ := ⟨_, rfl⟩
              have hAl : A.length = nf := by rw [hA, obFs_len, HKB.out, ← HNF.out]
              have HAG := Lib.hid (show ∀ p, p < nf → A[p]? = some (fldV O (t2.getD p 0) (fw l ⟨(a : Int), bsz, bkd, (q : Int), bmk, bnx⟩ p)) from fun p hp => by
                rw [hA, obFs_get (by rw [HKB.out, ← HNF.out]; exact hp), HKB.out])
              have HAL := Lib.hid hAl; have HA := Lib.hid hA
              clear oy bC m3' g8 c_g8 g8c B B1 hB1 hcut w1 w2 HW hA hAl
              go_wp2
              clear c_8 m3c
              go_loopg [104] nf (fun g i wr => ∃ p : Nat, p ≤ nf ∧ g = nf - p ∧ i = .int .i64 p ∧ Hid (OwnW wr wn.heap.size 34 (.slice yA yn yc) (A.take p ++ raw.drop p) ∧ Bx wr wn.heap.size 38 #[.int .i64 a, .int .i64 bsz, .int .i64 bkd, .int .i64 q, .bool bmk, .int .u64 bnx.toNat] ∧ Below wn.heap.size wn wr))
              case atStart => exact ⟨0, by omega, by omega, rfl, Lib.hid (by simpa using HC.out)⟩
              case round =>
                clear HC
                obtain ⟨p, hp, rfl, rfl, hh3⟩ := hrel
                obtain ⟨oy, g8, b1⟩ := hh3.out
                by_cases hlp : p < nf
                · have hAp := HAG.out p hlp
                  have hRp := HRG.out p hlp
                  obtain ⟨v5, hv5⟩ : ∃ x, x = fw l ⟨(a : Int), bsz, bkd, (q : Int), bmk, bnx⟩ p := ⟨_, rfl⟩
                  rw [← hv5] at hAp hRp
                  obtain ⟨bd, kk, ib, m4, hkk⟩ := (HBY.out.below b1).at_ (P := Try.prog) Try.underlying44 one_u8 (k := p) (by rw [← HNF.out]; exact hlp)
                  have hkk2 : t2.getD p 0 = kk := by rw [List.getD_eq_getElem?_getD, hkk.out]; rfl
                  rw [hkk2] at hAp
                  have hFl : (A.take p ++ raw.drop p).length = nf := by rw [List.length_append, List.length_take, List.length_drop]; have := HAL.out; have := HRL.out; omega
                  obtain ⟨yd, iyy, my, fy, hyb, hyo, hset⟩ := OwnW.at_ oy (k := p) (by rw [hFl]; exact hlp)
                  have hFp : (A.take p ++ raw.drop p).getD p 0 = v5 := by rw [List.getD_eq_getElem?_getD, mix_get hAp hRp]; rfl
                  rw [hFp] at my
                  have HAp := Lib.hid hAp; have HRp := Lib.hid hRp
                  by_cases h3 : kk.toNat = 3
                  · have k3 : ((kk.toNat : Int) == 3) = true := by rw [beq_iff_eq]; omega
                    have hro : v5 = 0 ∨ IsObj O v5.toNat := by
                      have := HRF.out p (by rw [HKB.out, ← HNF.out]; exact hlp) (by rw [HKB.out, hkk2]; exact h3)
                      rw [← hv5] at this; exact this
                    by_cases hv0 : v5 = 0
                    · have e0 : ((v5.toNat : Int) != 0) = false := by rw [hv0]; rfl
                      have HE := Lib.hid (mix_same (A := A) (R := raw) (x := v5) (by
                        rw [hAp, fldV_ref h3, hv0, refV_none]
                        rw [HO.out]; exact no_zero HRT.out.al (objs_low HRT.out.al)) hRp)
                      clear hAp hRp hv5 hkk hkk2 hFl hFp hro hv0 h3 hset oy g8
                      go_wp2
                      go_roundg (nf - (p + 1))
                      case measure => omega
                      case rel =>
                        refine ⟨p + 1, by omega, rfl, by go_num, ?_⟩
                        rw [HE.out]; exact hh3
                    · have e0 : ((v5.toNat : Int) != 0) = true := by rw [bne_iff_ne]; intro e; exact hv0 (UInt64.toNat.inj (by simp; omega))
                      have hob := hro.resolve_left hv0
                      obtain ⟨c, hcm, hce⟩ := hob
                      have hcb := HAB.out c (by rw [HOL.out] at hcm; exact (objs_mem.1 hcm).1)
                      obtain ⟨k, hk⟩ := Int.eq_ofNat_of_zero_le (numI_rng (a := (v5.toNat : Int)) HO9.out).1
                      have hk9 := (numI_rng (a := (v5.toNat : Int)) HO9.out).2
                      have hxe : ((refV O v5).toNat : Int) = (k : Int) + 1 := by rw [refV_idxI HO9.out, ← numI_idxI ⟨c, hcm, hce⟩, hk]
                      have hv5b : (v5.toNat : Int) ≤ 1000000 := by rw [← hce]; exact hcb.2
                      have ml := (HG.out.2.2.2.2.2.2.1.mapL.below b1).lookI Try.underlying3 Try.underlying134 Try.underlying3 (zero_int wr) (a := (v5.toNat : Int)) ⟨by omega, by omega⟩
                      rw [hk] at ml hk9
                      have w1 : IntKind.i64.wrap (v5.toNat : Int) = (v5.toNat : Int) := IntWalk.i64_in _ (by omega)
                      have w2 : IntKind.u64.wrap (k : Int) = (k : Int) := by show (k : Int) % 18446744073709551616 = _; omega
                      have w3 : IntKind.u64.wrap ((k : Int) + 1) = (k : Int) + 1 := by show ((k : Int) + 1) % 18446744073709551616 = _; omega
                      have hst := hset (refV O v5)
                      rw [hxe, ← fldV_ref h3] at hst
                      have hE := mix_set hAp hRp
                      have hne : yd.block ≠ wn.heap.size := by
                        rcases own_not_bx oy g8 (by decide) with h | h
                        · rw [h] at hyo; cases hyo
                        · intro e; rw [hyo, e] at h; exact h rfl
                      have HZ := Lib.hid (show OwnW (wr.setCell yd (.int .u64 ((k : Int) + 1))) wn.heap.size 34 (.slice yA yn yc) (A.take (p + 1) ++ raw.drop (p + 1)) ∧ Bx (wr.setCell yd (.int .u64 ((k : Int) + 1))) wn.heap.size 38 #[.int .i64 a, .int .i64 bsz, .int .i64 bkd, .int .i64 q, .bool bmk, .int .u64 bnx.toNat] ∧ Below wn.heap.size wn (wr.setCell yd (.int .u64 ((k : Int) + 1))) from
                        ⟨by rw [← hE]; exact hst, g8.far hne.symm _, b1.setCell hyb _⟩)
                      clear hAp hRp hv5 hkk hkk2 hFl hFp hro hv0 h3 hset oy g8 hcm hce hcb hk hxe hst hE hne
                      go_wp2
                      go_roundg (nf - (p + 1))
                      case measure => omega
                      case rel => exact ⟨p + 1, by omega, rfl, by go_num, HZ⟩
                  · have k3 : ((kk.toNat : Int) == 3) = false := by rw [beq_eq_false_iff_ne]; omega
                    have HE := Lib.hid (mix_same (A := A) (R := raw) (x := v5) (by rw [hAp, fldV_not h3]) hRp)
                    clear hAp hRp hv5 hkk hkk2 hFl hFp h3 hset oy g8
                    go_wp2
                    go_roundg (nf - (p + 1))
                    case measure => omega
                    case rel =>
                      refine ⟨p + 1, by omega, rfl, by go_num, ?_⟩
                      rw [HE.out]; exact hh3
                · obtain rfl : p = nf := by omega
                  have hfs : A.take p ++ raw.drop p = A := by rw [List.take_of_length_le (by rw [HAL.out]; exact Nat.le_refl _), List.drop_of_length_le (by rw [HRL.out]; exact Nat.le_refl _), List.append_nil]
                  rw [hfs] at oy
                  obtain ⟨oT, oO, oS, oK, g1, g5, mp, B⟩ := HG.out
                  obtain ⟨oA2, on2, oc2, rfl⟩ : ∃ A n c, ov = .slice A n c := by obtain ⟨vs, z1, z2, _⟩ := oO; obtain ⟨A, c, e⟩ := own_form' z2; exact ⟨A, _, c, e⟩
                  obtain ⟨vs, z1, z2, z4, z5⟩ := oO
                  have c5 := (g5.below b1).cell
                  have c_8 := g8.cell
                  have ba := b1.alloc b1.size (.cells #[.int .i64 (q : Int), .slice yA yn yc] 136)
                  have hoy : OwnW wr wn.heap.size 34 (.slice yA yn yc) (obOf l T O ⟨(a : Int), bsz, bkd, (q : Int), bmk, bnx⟩).fs := by rw [HA.out] at oy; exact oy
                  have HAA := Lib.hid (And.intro z1 (And.intro z2 (And.intro z4 (And.intro z5 (And.intro g5 (And.intro B (And.intro hoy (And.intro b1 ba))))))))
                  have hL1 : ((objs (L.take j2)).map (obOf l T O)).length ≤ 960 := by rw [List.length_map]; exact HOL9.out
                  clear z1 z4 z5 oT oS oK g1 g5 mp B oy b1 g8 hoy hh3
                  have Z2 := Lib.hid (own_below z2 ba); have BA := Lib.hid ba
                  clear z2 ba hfs
                  have HL1 := Lib.hid hL1
                  clear hL1
                  go_upto_region 27 with (fail)
                  go_wp2_with (at_builtin; refine wpList_append (by rfl) rfl rfl rfl Try.underlying77 info_obj rfl (by omega) (by exact Z2.out) (by exact lit_obj) (by exact one_obj rfl) (by have := HL1.out; omega) (by have := HL1.out; omega) (by exact HAA.out.2.2.2.2.2.1.trans (BA.out.mono hB0)) (by omega) ?_; intro v1 w3 oo3 B3 g3'; obtain ⟨vA, vn1, vc, rfl⟩ : ∃ A n c, v1 = .slice A n c := by { obtain ⟨A, c, e⟩ := own_form' oo3; exact ⟨A, _, c, e⟩ }; have MM := Lib.hid (pushO (o := obOf l T O ⟨(a : Int), bsz, bkd, (q : Int), bmk, bnx⟩) HAA.out.1 HAA.out.2.1 HAA.out.2.2.1 HAA.out.2.2.2.1 HAA.out.2.2.2.2.2.2.1 HAA.out.2.2.2.2.2.2.2.1 oo3 g3' HAA.out.2.2.2.2.1 HAA.out.2.2.2.2.2.1 hB0 (by omega)); have hc := MM.out.1.1; have hf := MM.out.1.2; clear oo3 B3 g3')
                  have HM := Lib.hid MM.out.2
                  clear MM hc hf c5 c_8 HAA Z2 BA
                  go_roundg (j - (j2 + 1))
                  case measure => omega
                  case rel =>
                    have P := HM.out
                    obtain ⟨oT, oO, oS, oK, g1, g5, mp, B⟩ := HG.out
                    refine ⟨j2 + 1, by omega, rfl, by go_num, Lib.hid ⟨_, P.t oT, ?_, P.row oS (by decide) (by decide), P.row oK (by decide) (by decide), P.bx g1 (by omega) (by decide), P.md, P.map mp, P.below⟩⟩
                    rw [HOB.out, List.map_append]; exact P.own
            · have k1 : (b.kind == 1) = false := by rw [beq_eq_false_iff_ne]; exact hk
              have k1' : (b.kind != 1) = true := by rw [bne_iff_ne]; exact hk
              have hob : objs (L.take (j2 + 1)) = objs (L.take j2) := by rw [htk, objs_snoc, if_neg hk, List.append_nil]
              have HOB := Lib.hid hob
              clear htk hk hob hb hh
              go_upto_region 19 with (fail)
              refine wp_gen (fun Wv => Bx Wv (wn.heap.size) (38) (#[.int .i64 b.at_, .int .i64 b.size, .int .i64 b.kind, .int .i64 b.ty, .bool b.mark, .int .u64 b.next.toNat]) ∧ Below wn.heap.size wn Wv) ⟨((Bx.at_ (by simp))), ((Below.refl _ wn).alloc (by simp <;> omega) _)⟩ ?_
              rintro wa11 ⟨g8, b⟩
              replace oT := oT.below b; replace oO := oO.below b; replace oS := oS.below b; replace oK := oK.below b; try clear c_g1 f_g1 a_g1 d_g1 e_g1
              replace g1 := g1.below b; have c_g1 := g1.cell; have f_g1 := g1.free; have a_g1 := fun o => (g1.alloc o).cell; have d_g1 := fun o o2 => ((g1.alloc o).alloc o2).cell; have e_g1 := fun o => (g1.alloc o).free; try clear c_g5 f_g5 a_g5 d_g5 e_g5
              replace g5 := g5.below b; have c_g5 := g5.cell; have f_g5 := g5.free; have a_g5 := fun o => (g5.alloc o).cell; have d_g5 := fun o o2 => ((g5.alloc o).alloc o2).cell; have e_g5 := fun o => (g5.alloc o).free; replace mp := mp.below b; replace B := B.trans (b.mono B.size); clear b
              have c_g8 := g8.cell; have f_g8 := g8.free; have a_g8 := fun o => (g8.alloc o).cell; have d_g8 := fun o o2 => ((g8.alloc o).alloc o2).cell; have e_g8 := fun o => (g8.alloc o).free
              have HZ := Lib.hid (And.intro oT (And.intro oO (And.intro oS (And.intro oK (And.intro g1 (And.intro g5 (And.intro mp B)))))))
              rw [← HOB.out] at HZ
              go_wp2
              go_roundg (j - (j2 + 1))
              case measure => omega
              case rel => exact ⟨j2 + 1, by omega, rfl, by go_num, Lib.hid ⟨_, HZ.out⟩⟩
          · obtain rfl : j2 = j := by omega
            obtain ⟨ov, oT, oO, oS, oK, g1, g5, mp, B⟩ := hh.out
            obtain ⟨oA2, on2, oc2, rfl⟩ : ∃ A n c, ov = .slice A n c := by obtain ⟨vs, z1, z2, _⟩ := oO; obtain ⟨A, c, e⟩ := own_form' z2; exact ⟨A, _, c, e⟩
            have htk : L.take j2 = L := List.take_of_length_le (by rw [← HN.out]; exact Nat.le_refl _)
            rw [htk, ← HOL.out] at oO
            have HM := Lib.hid (And.intro (OwnM.mk (m := ⟨T, O.map (obOf l T O), S⟩) oT oO oS) (And.intro g1 (And.intro g5 (And.intro mp B))))
            have c_g5 := g5.cell
            clear hh oT oO oS oK g1 g5 mp B htk
            go_wp2
            clear c_g5
            go_loopg [144] 16 (fun g i wr => ∃ j3 : Nat, j3 ≤ 16 ∧ g = 16 - j3 ∧ i = .int .i64 j3 ∧ Hid (OwnM wr w.heap.size 127 (.slice tA tn tc) (.slice oA2 on2 oc2) (.slice (some ⟨gS, 0, none⟩) 16 sc) ⟨T, O.map (obOf l T O), mapT (slOf O) S j3⟩ ∧ Bx wr w.heap.size 79 #[.slice none 0 0, .slice none 0 0, .slice none 0 0] ∧ Bx wr p5 79 #[.slice tA tn tc, .slice oA2 on2 oc2, .slice (some ⟨gS, 0, none⟩) 16 sc] ∧
              MapN Try.prog 3 3 (.int .i64 0) wr pm O.length (fun a => .int .i64 (numI O a)) (fun a => decide (IsObj O a)) ∧ Below w.heap.size w wr))
            case atStart => exact ⟨0, by omega, by omega, rfl, Lib.hid (by rw [mapT_zero]; exact HM.out)⟩
            case round =>
              clear HM
              obtain ⟨j3, hj3, rfl, rfl, hh⟩ := hrel
              obtain ⟨om, g3, g5, mp, B⟩ := hh.out
              have hB0 := B.size
              by_cases hlt3 : j3 < 16
              · obtain ⟨s, hs⟩ : ∃ s, S[j3]? = some s := ⟨_, List.getElem?_eq_getElem (by rw [HS16.out]; exact hlt3)⟩
                have hs2 := mapT_get (f := slOf O) hs
                have hsm : s ∈ slots l := by rw [← HS.out]; exact List.mem_of_getElem? hs
                have hso := seen_slot HRT.out hsm
                obtain ⟨ix, q0, q1, q2⟩ := OwnS.cells om.s hs2
                have q0' := q0; have q1' := q1; have q2' := q2
                have HJ := Lib.hid (And.intro om (And.intro g3 (And.intro g5 (And.intro mp B))))
                have B1 : Below wr.heap.size wr wr := Below.refl _ _
                cases hu : s.used
                · rw [hu] at q1
                  have HE := Lib.hid (mapT_same (f := slOf O) hs (slOf_not hu))
                  have hB3 := HJ.out.2.2.2.2
                  clear hs hs2 hso hsm om g3 g5 mp B q0' q1' q2' hh
                  obtain ⟨sg, su, sa⟩ := s
                  dsimp only at q0 q1 q2 hu
                  subst hu
                  have B := hB3
                  go_upto_region 32 with (fail)
                  refine wp_gen (fun Wv => Bx Wv (wr.heap.size) (68) (#[.int .i64 sg, .bool false, .int .i64 sa]) ∧ Below wr.heap.size wr Wv) ⟨((Bx.at_ (by simp))), ((Below.refl _ wr).alloc (by simp <;> omega) _)⟩ ?_
                  rintro wa12 ⟨g8, b⟩
                  replace B1 := B1.trans (b.mono B1.size); replace B := B.trans (b.mono B.size); clear b
                  have c_g8 := g8.cell; have f_g8 := g8.free; have a_g8 := fun o => (g8.alloc o).cell; have d_g8 := fun o o2 => ((g8.alloc o).alloc o2).cell; have e_g8 := fun o => (g8.alloc o).free
                  have HZ := Lib.hid (And.intro (HJ.out.1.below B1) (And.intro (HJ.out.2.1.below B1) (And.intro (HJ.out.2.2.1.below B1) (And.intro (HJ.out.2.2.2.1.below B1) B))))
                  clear ix q0 q1 q2
                  go_wp2
                  go_roundg (16 - (j3 + 1))
                  case measure => omega
                  case rel =>
                    refine ⟨j3 + 1, by omega, rfl, by go_num, ?_⟩
                    rw [HE.out]; exact HZ
                · rw [hu] at q1
                  obtain ⟨a1, a2, a3⟩ := hso.2.2.2 hu
                  obtain ⟨c, hcm, hce⟩ : IsObj O s.at_ := by rw [HO.out]; exact HRT.out.slots s hsm hu
                  have hnr := numI_rng (a := s.at_) HO9.out
                  obtain ⟨k, hk⟩ : ∃ k, k = numI O s.at_ := ⟨_, rfl⟩
                  have HE := Lib.hid (show (mapT (slOf O) S j3).set j3 ⟨s.gen, s.used, k⟩ = mapT (slOf O) S (j3 + 1) by
                    rw [← mapT_set hs, slOf_used hu, hu, hk, numI_idxI ⟨c, hcm, hce⟩])
                  have hB3 := HJ.out.2.2.2.2
                  have HSS := Lib.hid hs2
                  obtain ⟨sg, su, sa⟩ := s
                  dsimp only at q0 q1 q2 hu a1 a2 a3 hk hnr
                  subst hu
                  have HK := Lib.hid hk
                  clear hs hs2 hso hsm om g3 g5 mp B q0' q1' q2' hh hcm hce hk hnr
                  have B := hB3
                  go_upto_region 32 with (fail)
                  refine wp_gen (fun Wv => Bx Wv (wr.heap.size) (68) (#[.int .i64 sg, .bool true, .int .i64 sa]) ∧ Below wr.heap.size wr Wv) ⟨((Bx.at_ (by simp))), ((Below.refl _ wr).alloc (by simp <;> omega) _)⟩ ?_
                  rintro wa13 ⟨g8, b⟩
                  replace B1 := B1.trans (b.mono B1.size); replace B := B.trans (b.mono B.size); clear b
                  have c_g8 := g8.cell; have f_g8 := g8.free; have a_g8 := fun o => (g8.alloc o).cell; have d_g8 := fun o o2 => ((g8.alloc o).alloc o2).cell; have e_g8 := fun o => (g8.alloc o).free
                  have om := HJ.out.1.below B1; have g3 := HJ.out.2.1.below B1; have g5 := HJ.out.2.2.1.below B1; have mp := HJ.out.2.2.2.1.below B1
                  clear q0 q1 q2
                  obtain ⟨_, _, _, q2⟩ := OwnS.cells om.s HSS.out
                  dsimp only at q2
                  have ml := mp.mapL.lookI Try.underlying3 Try.underlying134 Try.underlying3 (zero_int _) (a := sa) ⟨by omega, by omega⟩
                  rw [← HK.out] at ml
                  have HP := Lib.hid (OwnS.put1 om.s HSS.out k)
                  have fz := HP.out.2.2.2.2
                  have hM3 := OwnM.slotsE om HP.out.2.1 HP.out.1 (by decide) (by decide) (by decide) (by decide)
                  have n3 : gS ≠ w.heap.size := own_ne_bx om.s g3 (by decide)
                  have n5 : gS ≠ p5 := own_ne_bx om.s g5 (by decide)
                  have r3 := g3.grown HP.out.2.1 (.inr (fun e => n3 (by injection e)))
                  have r4 := g5.grown HP.out.2.1 (.inr (fun e => n5 (by injection e)))
                  obtain ⟨es, ck, hmb⟩ := mp.mapL.block
                  have r5 := mp.kept HP.out.2.1 (fun e => by
                    rcases own_ne_map om.s hmb with h | h
                    · cases h
                    · exact h (by injection e with e; rw [e]; rfl))
                  have hb3 := B.grown HP.out.2.1 B.size (fun k hk => by injection hk with hk; rw [← hk]; exact HP.out.2.2.1)
                  have HZ := Lib.hid (And.intro hM3 (And.intro r3 (And.intro r4 (And.intro r5 hb3))))
                  have c_g5 := g5.cell
                  clear hM3 r3 r4 r5 hb3 om g3 g5 mp hmb f_g8 a_g8 d_g8 e_g8
                  go_wp2
                  clear q2 fz ml c_g5 c_g8 g8
                  go_roundg (16 - (j3 + 1))
                  case measure => omega
                  case rel =>
                    refine ⟨j3 + 1, by omega, rfl, by go_num, Lib.hid ?_⟩
                    rw [← HE.out]; exact HZ.out
              · obtain rfl : j3 = 16 := by omega
                rw [mapT_done (by rw [HS16.out]; exact Nat.le_refl _)] at om
                have HOM := Lib.hid om
                clear hh om mp
                have c_g3 := g3.cell
                have f_g3 := g3.free
                have c_g5 := g5.cell
                go_wp2
                refine bodyPost_ret (v := .tuple #[.agg #[.slice tA tn tc, .slice oA2 on2 oc2, .slice (some ⟨gS, 0, none⟩) 16 sc], .int .i64 0]) (by simp [results, Try.results42, go_sem, c_g3, f_g3]) rfl ?_
                refine ⟨_, _, _, rfl, OwnM.set3E HOM.out g3 (by decide), ?_⟩
                exact ((B.setCell (p := ⟨w.heap.size, 0, none⟩) (by simp) _).setCell (p := ⟨w.heap.size, 1, none⟩) (by simp) _).setCell (p := ⟨w.heap.size, 2, none⟩) (by simp) _
end Go.Proofs.Ytbfmdbeeiicabaa
namespace Go.Proofs.Ytbfmdbeeiicabaa.L20
open L02 L13 L18
def rootsFrom (m : Mo) (j : Nat) : List Nat := (m.slots.drop j).filterMap rootOf
theorem rootsFrom_step {m : Mo} {j : Nat} {s : Sl} (hs : m.slots[j]? = some s) : rootsFrom m j = (match rootOf s with | none => [] | some c => [c]) ++ rootsFrom m (j + 1) := by
  have hj : j < m.slots.length := (List.getElem?_eq_some_iff.1 hs).1
  have hd : m.slots.drop j = s :: m.slots.drop (j + 1) := by
    rw [List.drop_eq_getElem_cons hj]; congr 1
    rw [List.getElem?_eq_getElem hj] at hs; injection hs
  rw [rootsFrom, hd, List.filterMap_cons]
  cases rootOf s <;> rfl
def natI (l : List Nat) : List Int := l.map fun n : Nat => (n : Int)
theorem natI_len (l : List Nat) : (natI l).length = l.length := by simp [natI]
theorem natI_snoc (l : List Nat) (x : Nat) : natI (l ++ [x]) = natI l ++ [(x : Int)] := by simp [natI]
def seenV (N : Nat) (ord : List Nat) : List Bool := (List.range N).map fun i => decide (i ∈ ord)
theorem seenV_len (N : Nat) (ord : List Nat) : (seenV N ord).length = N := by simp [seenV]
theorem seenV_get {N n : Nat} (ord : List Nat) (h : n < N) : (seenV N ord)[n]? = some (decide (n ∈ ord)) := by simp [seenV, h]
theorem seenV_set {N n : Nat} (ord : List Nat) (h : n < N) : (seenV N ord).set n true = seenV N (ord ++ [n]) := by
  apply List.ext_getElem?
  intro i
  rcases Nat.lt_or_ge i N with hi | hi
  · by_cases hn : n = i
    · subst hn
      rw [List.getElem?_set_self (by rw [seenV_len]; exact h), seenV_get _ h]; simp
    · rw [List.getElem?_set_ne hn, seenV_get _ hi, seenV_get _ hi]
      simp [Ne.symm hn]
  · rw [List.getElem?_eq_none (by rw [List.length_set, seenV_len]; exact hi), List.getElem?_eq_none (by rw [seenV_len]; exact hi)]
/-- what is known of a kid -/
theorem kidAt_some {m : Mo} {o : Ob} {i c : Nat} (h : kidAt m o i = some c) : ((ty m.types o).getD i 0).toNat = 3 ∧ (o.fs.getD i 0).toNat = c + 1 := by
  unfold kidAt at h
  split at h
  · rename_i h1; injection h with h; exact ⟨h1.1, by omega⟩
  · cases h
theorem kids_lt {m : Mo} (hc : chk m = 0) : ∀ n, n < m.objs.length → ∀ k ∈ kids m n, k < m.objs.length := by
  intro n hn k hk
  obtain ⟨_, _, h3⟩ := chk_ok hc
  rw [kids, kidsTo, List.mem_filterMap] at hk
  obtain ⟨i, hi, hk⟩ := hk
  have hi := List.mem_range.1 hi
  have h1 := kidAt_some hk
  have hoo : ObOk m.types m.objs.length (ob m n) := h3.2.2.1 _ (by rw [ob, List.getD_eq_getElem?_getD, List.getElem?_eq_getElem hn]; exact List.getElem_mem hn)
  have := (hoo.2.2 i hi).2 h1.1
  omega
theorem roots_lt {m : Mo} (hc : chk m = 0) : ∀ n ∈ roots m, n < m.objs.length := by
  intro n hn
  obtain ⟨_, _, h3⟩ := chk_ok hc
  rw [roots, List.mem_filterMap] at hn
  obtain ⟨s, hs, hn⟩ := hn
  unfold rootOf at hn
  split at hn
  · rename_i hu
    injection hn with hn
    obtain ⟨a1, a2, a3⟩ := (h3.2.2.2 s hs).2.2 hu
    omega
  · cases hn
/-- what is reached -/
structure Reach (m : Mo) (out : List Nat) : Prop where
  rs : Rs m [] (roots m) out
  nd : out.Nodup
  lt : ∀ n ∈ out, n < m.objs.length
  len : out.length ≤ m.objs.length
theorem Reach.of {m : Mo} (hc : chk m = 0) {out : List Nat} (h : Rs m [] (roots m) out) : Reach m out := by
  have nd := h.nodup List.nodup_nil
  have lt := h.all (p := fun n => n < m.objs.length) (kids_lt hc) (by simp) (roots_lt hc)
  exact ⟨h, nd, lt, nodup_lt nd lt⟩
theorem canN_len (m : Mo) (out : List Nat) : (canN m out).length = m.objs.length := by simp [canN]
theorem canN_get {m : Mo} {out : List Nat} {n : Nat} (h : n < m.objs.length) : (canN m out)[n]? = some (if n ∈ out then (out.idxOf n : Int) else -1) := by simp [canN, h]
theorem idxOf_snoc {l : List Nat} {x y : Nat} (hx : x ∉ l) : (l ++ [x]).idxOf y = if y ∈ l then l.idxOf y else if y = x then l.length else l.length + 1 := by
  rw [List.idxOf_append]
  by_cases h : y ∈ l
  · rw [if_pos h, if_pos h]
  · rw [if_neg h, if_neg h]
    by_cases h2 : y = x
    · subst h2; simp
    · rw [if_neg h2]
      have : (x == y) = false := by rw [beq_eq_false_iff_ne]; exact Ne.symm h2
      simp [List.idxOf_cons, this]; omega
/-- the numbers of what is found, and 1 -/
def numsI (m : Mo) (ord : List Nat) : List Int := (List.range m.objs.length).map fun n => if n ∈ ord then (ord.idxOf n : Int) + 1 else 0
theorem numsI_len (m : Mo) (ord : List Nat) : (numsI m ord).length = m.objs.length := by simp [numsI]
theorem numsI_get {m : Mo} {ord : List Nat} {n : Nat} (h : n < m.objs.length) : (numsI m ord)[n]? = some (if n ∈ ord then (ord.idxOf n : Int) + 1 else 0) := by simp [numsI, h]
theorem numsI_nil (m : Mo) : numsI m [] = List.replicate m.objs.length 0 := by
  apply List.ext_getElem?
  intro i
  rcases Nat.lt_or_ge i m.objs.length with hi | hi
  · rw [numsI_get hi, List.getElem?_replicate, if_pos hi]; simp
  · rw [List.getElem?_eq_none (by rw [numsI_len]; exact hi), List.getElem?_eq_none (by simpa using hi)]
theorem numsI_step {m : Mo} {ord : List Nat} {n : Nat} (hni : n ∉ ord) (hlt : n < m.objs.length) : (numsI m ord).set n ((ord.length : Int) + 1) = numsI m (ord ++ [n]) := by
  apply List.ext_getElem?
  intro k
  rcases Nat.lt_or_ge k m.objs.length with hk | hk
  · by_cases hkn : n = k
    · subst hkn
      rw [List.getElem?_set_self (by rw [numsI_len]; exact hk), numsI_get hk, if_pos (by simp), idxOf_snoc hni, if_neg hni, if_pos rfl]
    · rw [List.getElem?_set_ne hkn, numsI_get hk, numsI_get hk]
      by_cases hm : k ∈ ord
      · rw [if_pos hm, if_pos (List.mem_append_left _ hm), idxOf_snoc hni, if_pos hm]
      · rw [if_neg hm, if_neg (by simp [hm]; exact fun e => hkn e.symm)]
  · rw [List.getElem?_eq_none (by rw [List.length_set, numsI_len]; exact hk), List.getElem?_eq_none (by rw [numsI_len]; exact hk)]
/-- the next kid -/
theorem Rs.kid {m : Mo} {o : Ob} {ord mid out : List Nat} {i c : Nat} (hi : i < o.fs.length) (h : Rs m ord (kidsTo m o o.fs.length) out) (h1 : Rs m ord (kidsTo m o i) mid) (hc : kidAt m o i = some c) : ∃ mid2, Rs m mid [c] mid2 ∧ Rs m ord (kidsTo m o (i + 1)) mid2 := by
  rw [kids_split (Nat.le_of_lt hi), kidsFrom_step hi, hc] at h
  obtain ⟨mid', a1, a2⟩ := h.app rfl
  obtain rfl := a1.det h1
  obtain ⟨mid2, b1, b2⟩ := a2.app (a := [c]) rfl
  exact ⟨mid2, b1, by rw [kidsTo_step, hc]; exact a1.join b1⟩
end Go.Proofs.Ytbfmdbeeiicabaa.L20
namespace Go.Proofs.Ytbfmdbeeiicabaa.L20
open L02 L13 L18
theorem numO_mapO (m : Mo) (ns : List Int) (o : Ob) : numO m ns o = mapO (numV ns) m.types o o.fs.length := by
  rw [numO, mapO]
  congr 1
  refine List.map_congr_left fun j hj => ?_
  rw [if_pos (List.mem_range.1 hj)]
theorem idxOf_eq {out : List Nat} (hn : out.Nodup) {n j : Nat} (h : n ∈ out) : out.idxOf n = j ↔ out[j]? = some n := by
  constructor
  · rintro rfl
    rw [List.getElem?_eq_getElem (List.idxOf_lt_length_of_mem h), List.getElem_idxOf]
  · intro hj
    have h1 : out[out.idxOf n]? = some n := by rw [List.getElem?_eq_getElem (List.idxOf_lt_length_of_mem h), List.getElem_idxOf]
    exact (List.getElem?_inj (List.idxOf_lt_length_of_mem h) hn).1 (h1.trans hj.symm)
theorem numN_can {m : Mo} {out : List Nat} (hr : Reach m out) (j : Nat) : numN m (canN m out) j (canN m out).length = match out[j]? with | none => [] | some n => [numO m (canN m out) (ob m n)] := by
  rw [canN_len]
  have e : ∀ a, (out[j]? = some a → (List.range m.objs.length).filter (fun n => decide ((canN m out).getD n (-2) = (j : Int))) = (List.range m.objs.length).filter (fun n => decide (n = a))) := fun a ha => by
    refine List.filter_congr fun n hn => ?_
    have hn := List.mem_range.1 hn
    rw [List.getD_eq_getElem?_getD, canN_get hn, Option.getD_some]
    congr 1
    rw [eq_iff_iff]
    by_cases h : n ∈ out
    · rw [if_pos h]
      constructor
      · intro h1
        have h2 : out.idxOf n = j := by omega
        have := (idxOf_eq hr.nd h).1 h2
        rw [ha] at this; injection this with this; exact this.symm
      · rintro rfl
        have := (idxOf_eq hr.nd h).2 ha
        omega
    · rw [if_neg h]
      constructor
      · intro h1; omega
      · rintro rfl; exact absurd (List.mem_of_getElem? ha) h
  cases hj : out[j]? with
  | some a =>
    rw [numN, e a hj, range_filter, if_pos (hr.lt a (List.mem_of_getElem? hj))]; rfl
  | none =>
    rw [numN]
    have : (List.range m.objs.length).filter (fun n => decide ((canN m out).getD n (-2) = (j : Int))) = [] := by
      rw [List.filter_eq_nil_iff]
      intro n hn
      have hn := List.mem_range.1 hn
      rw [List.getD_eq_getElem?_getD, canN_get hn, Option.getD_some, decide_eq_true_iff]
      split
      · rename_i h
        intro h1
        have h2 : out.idxOf n = j := by omega
        have := (idxOf_eq hr.nd h).1 h2
        rw [hj] at this; cases this
      · omega
    rw [this]; rfl
theorem numJ_can {m : Mo} {out : List Nat} (hr : Reach m out) : ∀ j, numJ m (canN m out) j = (out.take j).map fun n => numO m (canN m out) (ob m n)
  | 0 => by simp [numJ]
  | j + 1 => by
    rw [numJ_succ, numJ_can hr j, numN_can hr j, List.take_add_one, List.map_append]
    cases out[j]? <;> rfl
theorem canM_eq {m : Mo} {out : List Nat} (hr : Reach m out) : canM m out = ⟨m.types, out.map fun n => mapO (numV (canN m out)) m.types (ob m n) (ob m n).fs.length, m.slots.map (numS (canN m out))⟩ := by
  rw [canM, numM]
  congr 1
  rw [numJ_can hr, canN_len, List.take_of_length_le hr.len]
  refine List.map_congr_left fun n _ => numO_mapO m _ _
/-- the model of what is reached, with the old numbers -/
def canB (m : Mo) (out : List Nat) : Mo := ⟨m.types, out.map (ob m), m.slots⟩
theorem canB_done {m : Mo} {out : List Nat} (hr : Reach m out) (φ : UInt8 → UInt64 → UInt64) : mapP φ (canB m out) out.length 0 = ⟨m.types, out.map fun n => mapO φ m.types (ob m n) (ob m n).fs.length, m.slots⟩ := by
  have h := mapP_done (φ := φ) (m := canB m out)
  have hl : (canB m out).objs.length = out.length := by simp [canB]
  rw [hl] at h
  rw [h]
  simp [canB]
theorem canB_ob {m : Mo} {out : List Nat} {i : Nat} (hi : i < out.length) : ob (canB m out) i = ob m out[i] := by
  simp [canB, ob, List.getD_eq_getElem?_getD, List.getElem?_map, List.getElem?_eq_getElem hi]
theorem Reach.closed {m : Mo} {out : List Nat} (h : Reach m out) : ∀ n ∈ out, ∀ k ∈ kids m n, k ∈ out := h.rs.closed (by simp)
/-- a reference of an object that is reached -/
theorem can_ref {m : Mo} {out : List Nat} (hc : chk m = 0) (hr : Reach m out) {n i : Nat} (hn : n < (canB m out).objs.length) (hi : i < (ob (canB m out) n).fs.length) (h3 : ((ty m.types (ob (canB m out) n)).getD i 0).toNat = 3) :
    ((ob (canB m out) n).fs.getD i 0).toNat ≤ 960 ∧ (0 < ((ob (canB m out) n).fs.getD i 0).toNat → ∃ x : Nat, (numsI m out)[((ob (canB m out) n).fs.getD i 0).toNat - 1]? = some ((x : Int) + 1) ∧ x < 960 ∧ (numV (canN m out) ((ty m.types (ob (canB m out) n)).getD i 0) ((ob (canB m out) n).fs.getD i 0)).toNat = x + 1) := by
  have hl : n < out.length := by simpa [canB] using hn
  rw [canB_ob hl] at hi h3 ⊢
  have hmem : out[n] ∈ out := List.getElem_mem hl
  have hlt := hr.lt _ hmem
  obtain ⟨_, ho, h4⟩ := chk_ok hc
  have hoo : ObOk m.types m.objs.length (ob m out[n]) := h4.2.2.1 _ (by rw [ob, List.getD_eq_getElem?_getD, List.getElem?_eq_getElem hlt]; exact List.getElem_mem hlt)
  have hv := (hoo.2.2 i hi).2 h3
  refine ⟨by omega, fun h0 => ?_⟩
  have hk : ((ob m out[n]).fs.getD i 0).toNat - 1 ∈ kids m out[n] := by
    rw [kids, kidsTo, List.mem_filterMap]
    exact ⟨i, List.mem_range.2 hi, by rw [kidAt, if_pos ⟨h3, h0⟩]⟩
  have hin := hr.closed _ hmem _ hk
  have hil := List.idxOf_lt_length_of_mem hin
  have := hr.len
  have hq : ((ob m out[n]).fs.getD i 0).toNat - 1 < m.objs.length := by omega
  refine ⟨out.idxOf (((ob m out[n]).fs.getD i 0).toNat - 1), by rw [numsI_get hq, if_pos hin], by omega, ?_⟩
  rw [numV, if_pos ⟨h3, h0⟩, List.getD_eq_getElem?_getD, canN_get hq, if_pos hin, Option.getD_some]
  rw [UInt64.toNat_ofNat_of_lt' (by unfold UInt64.size; omega)]
  omega
end Go.Proofs.Ytbfmdbeeiicabaa.L20
namespace Go.Proofs.Ytbfmdbeeiicabaa.L20
open L02 L13 L18
def exM : Mo := ⟨[[3]], [⟨0, [2]⟩, ⟨0, [0]⟩], ⟨1, true, 0⟩ :: ⟨1, true, 1⟩ :: List.replicate 14 Sl.none⟩
def exD : Mo := ⟨[[3]], [⟨0, [2]⟩, ⟨0, [0]⟩], ⟨1, true, 0⟩ :: List.replicate 1 ⟨1, false, 0⟩ ++ List.replicate 14 Sl.none⟩
def exN : Mo := ⟨[[3]], [⟨0, [2]⟩, ⟨0, [0]⟩], ⟨1, false, 0⟩ :: List.replicate 1 ⟨1, false, 0⟩ ++ List.replicate 14 Sl.none⟩
theorem ex_free : freeE exM 1 1 = 45 := by decide +kernel
theorem ex_a1 : asked exM 1 1 = 0 := by decide +kernel
theorem ex_d1 : dropM exM 1 1 = exD := by decide +kernel
theorem exD_chk : chk exD = 0 := by decide +kernel
theorem ex_a2 : asked exD 0 1 = 0 := by decide +kernel
theorem ex_d2 : dropM exD 0 1 = exN := by decide +kernel
theorem exN_chk : chk exN = 0 := by decide +kernel
theorem exD_rs : Rs exD [] (roots exD) [0, 1] := by
  have h1 : roots exD = [0] := by decide +kernel
  have h2 : kids exD 0 = [1] := by decide +kernel
  have h3 : kids exD 1 = [] := by decide +kernel
  rw [h1]
  refine .new (by simp) ?_
  rw [h2]
  refine .new (by simp) ?_
  rw [h3]
  exact .nil _
theorem exN_rs : Rs exN [] (roots exN) [] := by
  have h1 : roots exN = [] := by decide +kernel
  rw [h1]; exact .nil _
theorem exD_len : (canM exD [0, 1]).objs.length = 2 := by rw [canM_eq (Reach.of exD_chk exD_rs)]; rfl
theorem exN_len : (canM exN []).objs.length = 0 := by rw [canM_eq (Reach.of exN_chk exN_rs)]; rfl
end Go.Proofs.Ytbfmdbeeiicabaa.L20
namespace Go.Proofs.Ytbfmdbeeiicabaa
open Go.RowKit L02 L13 L18 L20
/-- objects of the call's own, of which number n has its fields in block gf -/
def OwnF (w : World) (base : Nat) (v : Value) (L : List Ob) (n gf : Nat) : Prop := ∃ (vs : List Value) (nf cf : Nat), vs.length = L.length ∧ w.ownsRow base 136 2 v L.length (obC L vs) ∧ (∀ (i : Nat) x o, vs[i]? = some x → L[i]? = some o → OwnW w base 34 x o.fs) ∧
  (∀ (i j : Nat) x y, i ≠ j → vs[i]? = some x → vs[j]? = some y → x.ownBlock = none ∨ x.ownBlock ≠ y.ownBlock) ∧ vs[n]? = some (.slice (some ⟨gf, 0, none⟩) nf cf)
theorem OwnF.own {w : World} {base n gf : Nat} {v : Value} {L : List Ob} (h : OwnF w base v L n gf) : OwnO w base v L := by
  obtain ⟨vs, nf, cf, h1, h2, h4, h5, _⟩ := h; exact ⟨vs, h1, h2, h4, h5⟩
theorem OwnF.below {w w' : World} {base n gf : Nat} {v : Value} {L : List Ob} (h : OwnF w base v L n gf) (hb : Below w.heap.size w w') : OwnF w' base v L n gf := by
  obtain ⟨vs, nf, cf, h1, h2, h4, h5, h6⟩ := h; exact ⟨vs, nf, cf, h1, own_below h2 hb, fun i x l h5 h6 => (h4 i x l h5 h6).below hb, h5, h6⟩
theorem OwnF.mono {w : World} {base base' n gf : Nat} {v : Value} {L : List Ob} (h : OwnF w base v L n gf) (hb : base' ≤ base) : OwnF w base' v L n gf := by
  obtain ⟨vs, nf, cf, h1, h2, h4, h5, h6⟩ := h; exact ⟨vs, nf, cf, h1, own_mono h2 hb, fun i x l h5 h6 => own_mono (h4 i x l h5 h6) hb, h5, h6⟩
theorem OwnF.set {w : World} {B p i n gf : Nat} {v u : Value} {L : List Ob} {t : TypeId} {cs : Array Value} (h : OwnF w B v L n gf) (hg : Bx w p t cs) (h1 : 136 ≠ t) (h2 : 34 ≠ t) : OwnF (w.setCell ⟨p, i, none⟩ u) B v L n gf := by
  obtain ⟨vs, nf, cf, a1, a2, a4, a5, a6⟩ := h; exact ⟨vs, nf, cf, a1, own_set a2 hg h1, fun i x l h5 h6 => own_set (a4 i x l h5 h6) hg h2, a5, a6⟩
theorem OwnF.cell {w : World} {base n gf i : Nat} {v : Value} {L : List Ob} {o : Ob} {x : UInt64} (h : OwnF w base v L n gf) (ho : L[n]? = some o) (hx : o.fs[i]? = some x) :
    w.cell? ⟨gf, i, none⟩ = some (.int .u64 x.toNat) ∧ w.frozen? ⟨gf, i, none⟩ = false ∧ base ≤ gf ∧ gf < w.heap.size := by
  obtain ⟨vs, nf, cf, h1, h2, h4, h5, h6⟩ := h
  have hr := h4 n _ _ h6 ho
  have hi : i < o.fs.length := (List.getElem?_eq_some_iff.1 hx).1
  have hn : nf = o.fs.length := by
    obtain ⟨g', cap, cur, hv, _⟩ := own_form hr (by omega)
    injection hv
  subst hn
  have hl := hr.lt gf rfl
  have hc := Rd.cell (OwnW.rd hr) (j := i) (u := u64 x) (by rw [List.getElem?_map, hx]; rfl)
  refine ⟨?_, hr.frozenAt i, hl.1, hl.2⟩
  simpa [cellAt, u64] using hc
/-- where an own object lies; x the slice of its fields -/
theorem OwnO.at_ {w : World} {base : Nat} {v : Value} {L : List Ob} (h : OwnO w base v L) {n : Nat} {o : Ob} (ho : L[n]? = some o) (hf : 0 < o.fs.length) :
    ∃ b q gf nf cf, (∀ W, (Instr.indexAt 77 v (.int .i64 (n : Int))).run Try.prog W = .ok (.pointer (some ⟨b, q, none⟩)) W) ∧ w.cell? ⟨b, q, none⟩ = some (.int .i64 o.ty) ∧ w.cell? ⟨b, q + 1, none⟩ = some (.slice (some ⟨gf, 0, none⟩) nf cf) ∧ b < w.heap.size ∧ OwnF w base v L n gf ∧ nf = o.fs.length ∧
      ∀ i, i < o.fs.length → ∀ W, (Instr.indexAt 22 (.slice (some ⟨gf, 0, none⟩) nf cf) (.int .i64 (i : Int))).run Try.prog W = .ok (.pointer (some ⟨gf, i, none⟩)) W := by
  obtain ⟨vs, h1, h2, h4, h5⟩ := h
  have hk : n < L.length := (List.getElem?_eq_some_iff.1 ho).1
  have hv : vs[n]? = some vs[n] := List.getElem?_eq_getElem (by omega)
  have hr := h4 n _ _ hv ho
  obtain ⟨gf, cap, cur, hvv, _⟩ := own_form hr hf
  have hix := fun W => Rd.ixN (P := Try.prog) (Rd.of_own h2) Try.underlying77 size_obj hk W
  obtain ⟨b, q, c, rfl, hb, hc, hcell⟩ := Rd.form (Rd.of_own h2) (by omega)
  obtain ⟨c0, c1⟩ := obC_get ho hv
  rw [hvv] at c1 hv hr
  refine ⟨b, q + n * 2, gf, _, cap, fun W => hix W, hcell _ _ c0, hcell _ _ c1, hb, ⟨vs, _, cap, h1, h2, h4, h5, hv⟩, rfl, fun i hi W => ?_⟩
  have := Rd.ixN (P := Try.prog) (OwnW.rd hr) Try.underlying22 one_u64 hi W
  simpa [cellAt] using this
theorem obC_setFs : ∀ {L : List Ob} {vs : List Value} {n : Nat} {o : Ob} {f : List UInt64}, L[n]? = some o → obC (L.set n ⟨o.ty, f⟩) vs = obC L vs
  | [], _, _, _, _, h => by simp at h
  | o :: L, [], 0, o', f, h => rfl
  | o :: L, x :: vs, 0, o', f, h => by simp at h; subst h; rfl
  | o :: L, [], n + 1, o', f, h => rfl
  | o :: L, x :: vs, n + 1, o', f, h => by
    rw [List.set_cons_succ, obC, obC, obC_setFs (by simpa using h)]
/-- a word is stored into a field -/
theorem OwnM.storeF {w : World} {B n gf i : Nat} {tv ov sv : Value} {m : Mo} {o : Ob} {x0 : UInt64} (h : OwnM w B 68 tv ov sv m) (hf : OwnF w B ov m.objs n gf) (ho : m.objs[n]? = some o) (hx : o.fs[i]? = some x0) (x : UInt64) :
    OwnM (w.setCell ⟨gf, i, none⟩ (.int .u64 x.toNat)) B 68 tv ov sv (putF m n i x) ∧ OwnF (w.setCell ⟨gf, i, none⟩ (.int .u64 x.toNat)) B ov (putF m n i x).objs n gf ∧ w.grownBy (w.setCell ⟨gf, i, none⟩ (.int .u64 x.toNat)) (some gf) := by
  obtain ⟨vs, nf, cf, h1, h2, h4, h5, h6⟩ := hf
  have hob : ob m n = o := by simp [ob, List.getD_eq_getElem?_getD, ho]
  have hr := h4 n _ _ h6 ho
  have hi : i < o.fs.length := (List.getElem?_eq_some_iff.1 hx).1
  have hn : nf = o.fs.length := by
    obtain ⟨g', cap, cur, hv, _⟩ := own_form hr (by omega)
    injection hv
  subst hn
  have hst := World.ownsRow.stored hr i (u64 x)
  have hg := hst.2
  have ho2 : (w.setCell ⟨gf, i, none⟩ (u64 x)).ownsRow B 136 2 ov m.objs.length (obC m.objs vs) := World.ownsRow.kept h2 hg (own_unlike h2 hr (by decide))
  have hF : OwnF (w.setCell ⟨gf, i, none⟩ (u64 x)) B ov (putF m n i x).objs n gf := by
    refine ⟨vs, _, cf, by simp [L20.putF, h1], ?_, fun j y l hy hl => ?_, h5, h6⟩
    · show World.ownsRow _ B _ 2 ov (m.objs.set n ⟨(ob m n).ty, (ob m n).fs.set i x⟩).length (obC (m.objs.set n ⟨(ob m n).ty, (ob m n).fs.set i x⟩) vs)
      rw [hob, obC_setFs ho, List.length_set]; exact ho2
    · by_cases hj : j = n
      · subst hj
        have e1 : (putF m j i x).objs[j]? = some ⟨(ob m j).ty, (ob m j).fs.set i x⟩ := by
          show (m.objs.set j _)[j]? = _
          rw [List.getElem?_set_self (List.getElem?_eq_some_iff.1 ho).1]
        rw [e1] at hl; injection hl with hl; subst hl
        rw [h6] at hy; injection hy with hy; subst hy
        refine OwnW.of hst.1 ?_
        rw [hob]; simp only [List.map_set]
      · have e1 : (putF m n i x).objs[j]? = m.objs[j]? := by
          show (m.objs.set n _)[j]? = _
          rw [List.getElem?_set_ne (Ne.symm hj)]
        rw [e1] at hl
        exact World.ownsRow.kept (h4 j y l hy hl) hg (h5 j n y _ hj hy h6)
  exact ⟨⟨OwnT.kept h.t hr hg (by decide) (by decide), hF.own, World.ownsRow.kept h.s hg (own_unlike h.s hr (by decide))⟩, hF, hg⟩
end Go.Proofs.Ytbfmdbeeiicabaa
namespace Go.Proofs.Ytbfmdbeeiicabaa
open Go.RowKit L02 L13 L18 L20
/-- a byte of an own table -/
theorem OwnT.at2 {w : World} {base : Nat} {v : Value} {L : List (List UInt8)} (h : OwnT w base v L) {k i : Nat} {l : List UInt8} {b : UInt8} (hl : L[k]? = some l) (hb : l[i]? = some b) :
    ∃ ad bd y, (∀ W, (Instr.indexAt 39 v (.int .i64 (k : Int))).run Try.prog W = .ok (.pointer (some ad)) W) ∧ w.cell? ad = some y ∧ (∀ W, (Instr.indexAt 44 y (.int .i64 (i : Int))).run Try.prog W = .ok (.pointer (some bd)) W) ∧ w.cell? bd = some (.int .u8 b.toNat) ∧ base ≤ ad.block ∧ base ≤ bd.block := by
  obtain ⟨vs, h1, h2, h4⟩ := h
  have hk : k < L.length := (List.getElem?_eq_some_iff.1 hl).1
  have hi : i < l.length := (List.getElem?_eq_some_iff.1 hb).1
  have hv : vs[k]? = some vs[k] := List.getElem?_eq_getElem (by omega)
  have hr := h4 k _ _ hv hl
  obtain ⟨g, c, cur, e, hg, _⟩ := own_form h2 (by omega)
  obtain ⟨g', c', cur', e', hg', _⟩ := own_form hr (by omega)
  refine ⟨cellAt v (k * 1), cellAt vs[k] (i * 1), vs[k], fun W => Rd.ixN (Rd.of_own h2) Try.underlying39 one_bytes hk W, by rw [Nat.mul_one]; exact Rd.cell (Rd.of_own h2) hv, fun W => Rd.ixN (OwnB.rd hr) Try.underlying44 one_u8 hi W, ?_, ?_, ?_⟩
  · rw [Nat.mul_one]; exact Rd.cell (OwnB.rd hr) (by rw [List.getElem?_map, hb]; rfl)
  · rw [e]; exact hg
  · rw [e']; exact hg'
end Go.Proofs.Ytbfmdbeeiicabaa
namespace Go.Proofs.Ytbfmdbeeiicabaa
open Go.RowKit L02 L13 L18 L20
end Go.Proofs.Ytbfmdbeeiicabaa
namespace Go.Proofs.Ytbfmdbeeiicabaa
open Go.RowKit
/-- a pointer to a handle, or none -/
def PtrH (w : World) (v : Value) (tt : Option (Int × Int)) : Prop := match tt with
  | none => v = .pointer none
  | some t => ∃ g, v = .pointer (some ⟨g, 0, none⟩) ∧ Bx w g 103 #[.int .i64 t.1, .int .i64 t.2]
theorem PtrH.below {w w' : World} {v : Value} {tt : Option (Int × Int)} (h : PtrH w v tt) (hb : Below w.heap.size w w') : PtrH w' v tt := by
  cases tt with
  | none => exact h
  | some t => obtain ⟨g, h1, h2⟩ := h; exact ⟨g, h1, h2.below hb⟩
end Go.Proofs.Ytbfmdbeeiicabaa
namespace Go.Proofs.Ytbfmdbeeiicabaa
open Go.RowKit L02 L13 L18 L20
end Go.Proofs.Ytbfmdbeeiicabaa
namespace Go.Proofs.Ytbfmdbeeiicabaa
open Go.RowKit L02 L13 L18 L20
/-- the region in which a handle is made, and a block for it: g is that block. R: what holds of the model before, behind the call; ps: blocks that stay -/
def FHandle (w : World) (R : Bool → World → Prop) (ps : List (Nat × TypeId × Array Value)) (gf i : Nat) (x : Int) (a b : Int) (z : Nat) (g : Nat) : (Nat → Bool) → World → Prop := fun φ W =>
  (R (φ 6) W ∧ z ≤ W.heap.size) ∧ Below w.heap.size w W ∧ (∀ p ∈ ps, Bx W p.1 p.2.1 p.2.2) ∧ W.cell? ⟨gf, i, none⟩ = some (.int .u64 x) ∧ (φ 11 = true → φ 10 = true) ∧ (φ 10 = true → (∀ p ∈ ps, g ≠ p.1) ∧ gf ≠ g ∧ z ≤ g) ∧ (φ 10 = true → φ 11 = false → Bx W g 103 #[.int .i64 0, .int .i64 0]) ∧ (φ 11 = true → Bx W g 103 #[.int .i64 a, .int .i64 b])
theorem FHandle.dep {w : World} {R : Bool → World → Prop} {ps : List (Nat × TypeId × Array Value)} {gf i : Nat} {x a b : Int} {z g : Nat} : Dep (FHandle w R ps gf i x a b z g) [6, 10, 11] := by
  rintro φ ψ W h ⟨h1, h2, h3, h4, h5, h6, h7, h8⟩
  have e1 := h 6 (by simp); have e2 := h 10 (by simp); have e3 := h 11 (by simp)
  rw [e1] at h1; rw [e2, e3] at h5; rw [e2] at h6; rw [e2, e3] at h7; rw [e3] at h8
  exact ⟨h1, h2, h3, h4, h5, h6, h7, h8⟩
theorem FHandle.agree {w : World} {R : Bool → World → Prop} {ps : List (Nat × TypeId × Array Value)} {gf i : Nat} {x a b : Int} {z g g' : Nat} {φ : Nat → Bool} {W : World} (h : φ 10 = true → g = g') (hF : FHandle w R ps gf i x a b z g φ W) : FHandle w R ps gf i x a b z g' φ W := by
  by_cases h10 : φ 10 = true
  · rw [← h h10]; exact hF
  · obtain ⟨h1, h2, h3, h4, h5, h6, h7, h8⟩ := hF
    exact ⟨h1, h2, h3, h4, h5, fun e => absurd e h10, fun e => absurd e h10, fun e => absurd (h5 e) h10⟩
/-- the block is made -/
theorem FHandle.alloc {w : World} {R : Bool → World → Prop} {ps : List (Nat × TypeId × Array Value)} {gf i : Nat} {x a b : Int} {z g : Nat} {φ : Nat → Bool} {W : World} (hF : FHandle w R ps gf i x a b z g φ W) (h10 : φ 10 = false) (hR : ∀ c W o, R c W → R c (W.alloc o)) :
    FHandle w R ps gf i x a b z W.heap.size (fun j => j == 10 || φ j) (W.alloc (.cells #[.int .i64 0, .int .i64 0] 103)) := by
  obtain ⟨h1, h2, h3, h4, h5, h6, h7, h8⟩ := hF
  have h11 : φ 11 = false := by
    cases e : φ 11
    · rfl
    · rw [h5 e] at h10; cases h10
  have hlt := World.block_lt_of_cell? W _ h4
  refine ⟨⟨by simpa using hR _ _ _ h1.1, by simp; omega⟩, h2.alloc h2.size _, fun p hp => (h3 p hp).alloc _, cell_later ((Below.refl _ W).alloc (Nat.le_refl _) _) h4, by simp, fun _ => ⟨fun p hp => by have := (h3 p hp).lt; omega, by simp at hlt; omega, h1.2⟩, fun _ _ => Bx.new _ _ _, by simp [h11]⟩
/-- the handle is made -/
theorem FHandle.call {w : World} {R : Bool → World → Prop} {ps : List (Nat × TypeId × Array Value)} {gf i : Nat} {x a b : Int} {z g : Nat} {φ : Nat → Bool} {W W' : World} {row : Option Nat} (hF : FHandle w R ps gf i x a b z g φ W) (hk : Keep W W' row) (hps : ∀ p ∈ ps, row ≠ some p.1) (hgf : row ≠ some gf) (hrow : ∀ k, row = some k → k < z)
    (hR : R true W') (hB : Below w.heap.size w W') : FHandle w R ps gf i x a b z g (fun j => j == 6 || φ j) W' := by
  obtain ⟨h1, h2, h3, h4, h5, h6, h7, h8⟩ := hF
  have hlt := World.block_lt_of_cell? W _ h4
  have hrg : φ 10 = true → row = none ∨ row ≠ some g := fun e => by
    rcases row with _ | k
    · exact .inl rfl
    · have h := hrow k rfl
      have h' := (h6 e).2.2
      exact .inr (fun e => by injection e with e; omega)
  refine ⟨⟨by simpa using hR, Nat.le_trans h1.2 hk.1⟩, hB, fun p hp => (h3 p hp).keep hk (.inr (hps p hp)), ?_, by simpa using h5, by simpa using h6, fun e1 e2 => ?_, fun e => ?_⟩
  · rw [World.cell?_of_block (hk.2 gf hlt (fun e => hgf e.symm))]; exact h4
  · have e1' : φ 10 = true := by simpa using e1
    exact (h7 e1' (by simpa using e2)).keep hk (hrg e1')
  · have e' : φ 11 = true := by simpa using e
    exact (h8 e').keep hk (hrg (h5 e'))
/-- the handle is stored -/
theorem FHandle.store {w : World} {R : Bool → World → Prop} {ps : List (Nat × TypeId × Array Value)} {gf i : Nat} {x a b : Int} {z g : Nat} {φ : Nat → Bool} {W : World} (hF : FHandle w R ps gf i x a b z g φ W) (hz : w.heap.size ≤ z) (h10 : φ 10 = true) (h11 : φ 11 = false)
    (hR : ∀ c W p cs u, Bx W g 103 cs → R c W → R c (W.setCell ⟨g, p, none⟩ u)) :
    (W.cell? ⟨g, 0, none⟩ = some (.int .i64 0) ∧ W.cell? ⟨g, 1, none⟩ = some (.int .i64 0) ∧ ∀ j, W.frozen? ⟨g, j, none⟩ = false) ∧ FHandle w R ps gf i x a b z g (fun j => j == 11 || φ j) ((W.setCell ⟨g, 0, none⟩ (.int .i64 a)).setCell ⟨g, 1, none⟩ (.int .i64 b)) := by
  obtain ⟨h1, h2, h3, h4, h5, h6, h7, h8⟩ := hF
  have hb := h7 h10 h11
  obtain ⟨k1, k2, k3⟩ := h6 h10
  have k4 := Nat.le_trans hz k3
  refine ⟨⟨hb.cell 0, hb.cell 1, fun j => hb.free j⟩, ⟨?_, by simpa [World.setCell] using h1.2⟩, (h2.setCell (p := ⟨g, 0, none⟩) k4 _).setCell (p := ⟨g, 1, none⟩) k4 _, fun p hp => ((h3 p hp).far (p := ⟨g, 0, none⟩) (Ne.symm (k1 p hp)) _).far (p := ⟨g, 1, none⟩) (Ne.symm (k1 p hp)) _, cell_far (cell_far h4 k2) k2, fun _ => by simpa using h10, fun _ => ⟨k1, k2, k3⟩, fun _ e => by simp at e, fun _ => ?_⟩
  · have := hR _ _ 1 _ (.int .i64 b) (hb.set (i := 0) (.int .i64 a)) (hR _ _ 0 _ (.int .i64 a) hb h1.1)
    simpa using this
  · have := (hb.set (i := 0) (.int .i64 a)).set (i := 1) (.int .i64 b)
    simpa using this
/-- two results are stored, in either order -/
def FTwoR (w : World) (B0 : Nat) (t o s : Value) (m : Mo) (p7 p4 gq : Nat) (p3 : Nat) (a b : Int) : (Nat → Bool) → World → Prop := fun f W =>
  Below w.heap.size w W ∧ OwnM W B0 68 t o s m ∧ Bx W p3 79 (if f 2 = true then #[t, o, s] else #[.slice none 0 0, .slice none 0 0, .slice none 0 0]) ∧ Bx W p7 103 (if f 3 = true then #[.int .i64 a, .int .i64 b] else #[.int .i64 0, .int .i64 0]) ∧
    Bx W p4 79 #[t, o, s] ∧ Bx W gq 103 #[.int .i64 a, .int .i64 b]
theorem FTwoR.dep {w : World} {B0 : Nat} {t o s : Value} {m : Mo} {p7 p4 gq p3 : Nat} {a b : Int} : Dep (FTwoR w B0 t o s m p7 p4 gq p3 a b) [2, 3] := by
  rintro f g W h ⟨h1, h2, h3, h4, h5, h6⟩
  have e1 := h 2 (by simp); have e2 := h 3 (by simp)
  rw [e1] at h3; rw [e2] at h4
  exact ⟨h1, h2, h3, h4, h5, h6⟩
end Go.Proofs.Ytbfmdbeeiicabaa
namespace Go.Proofs.Ytbfmdbeeiicabaa
open Go.RowKit L02 L13 L18 L20
end Go.Proofs.Ytbfmdbeeiicabaa
namespace Go.Proofs.Ytbfmdbeeiicabaa
open Go.RowKit L02 L13 L18 L20
end Go.Proofs.Ytbfmdbeeiicabaa
namespace Go.Proofs.Ytbfmdbeeiicabaa
open Go.RowKit L02 L13 L18 L20
end Go.Proofs.Ytbfmdbeeiicabaa
namespace Go.Proofs.Ytbfmdbeeiicabaa
open Go.RowKit L02 L13 L18 L20
end Go.Proofs.Ytbfmdbeeiicabaa
namespace Go.Proofs.Ytbfmdbeeiicabaa
open Go.RowKit L02 L13 L18 L20
end Go.Proofs.Ytbfmdbeeiicabaa
namespace Go.Proofs.Ytbfmdbeeiicabaa
open Go.RowKit L02 L13 L18 L20
end Go.Proofs.Ytbfmdbeeiicabaa
namespace Go.Proofs.Ytbfmdbeeiicabaa
open Go.RowKit L02 L13 L18 L20
set_option maxRecDepth 100000 in
set_option maxHeartbeats 8000000 in
theorem Drop20_any (tv ov sv : Value) (m : Mo) (sl g : Int) (M : Mo) (r : Int) (hM : M = dropM m sl g) (hr : r = asked m sl g) (w : World) (h : Mod w tv ov sv m) :
    Calls Try.prog 87 #[.agg #[tv, ov, sv], .agg #[.int .i64 sl, .int .i64 g]] w fun e w' => ∃ t' o' s', e = .returned (.tuple #[.agg #[t', o', s'], .int .i64 r]) ∧ Mod w' t' o' s' M ∧ Below w.heap.size w w' := by
  have B : Below w.heap.size w w := Below.refl _ _
  have H := Lib.hid h
  by_cases ha : asked m sl g = 0
  · obtain ⟨c0, hr0, k, s, n', o, t, hk, hk16, hs, hu, hg, hso, hat, hown, _⟩ := asked_ok ha
    have OT := Lib.hid (fun w h => open20_ok tv ov sv m sl g n' ha hown w h)
    obtain ⟨_, _, h16, _⟩ := chk_ok c0
    have hr1 : r = 0 := by rw [hr, ha]
    have hM1 : M = ⟨m.types, m.objs, m.slots.set k ⟨g, false, 0⟩⟩ := by rw [hM, dropM, if_pos ha, hk, Int.toNat_natCast]
    subst hk
    subst hr1; subst hM1
    have HS := Lib.hid hs; have H16 := Lib.hid h16
    clear hr hM ha c0 hr0 hu hso hat hown h hs h16
    go_enter Try.func87, Try.ntmps87
    go_upto_region 1 with (fail)
    refine wp_gen (fun Wv => Bx Wv (w.heap.size) (79) (#[tv, ov, sv]) ∧ Bx Wv (w.heap.size + 1) (103) (#[.int .i64 k, .int .i64 g]) ∧ Bx Wv (w.heap.size + 1 + 1) (79) (#[.slice none 0 0, .slice none 0 0, .slice none 0 0]) ∧ Below w.heap.size w Wv) ⟨((((Bx.at_ (by simp)).alloc _).alloc _)), (((Bx.at_ (by simp)).alloc _)), ((Bx.at_ (by simp))), ((((Below.refl _ w).alloc (by simp <;> omega) _).alloc (by simp <;> omega) _).alloc (by simp <;> omega) _)⟩ ?_
    rintro wa1 ⟨g1, g2, g3, b⟩
    replace B := B.trans (b.mono B.size); clear b
    have c_g1 := g1.cell; have f_g1 := g1.free; have a_g1 := fun o => (g1.alloc o).cell; have d_g1 := fun o o2 => ((g1.alloc o).alloc o2).cell; have e_g1 := fun o => (g1.alloc o).free
    have c_g2 := g2.cell; have f_g2 := g2.free; have a_g2 := fun o => (g2.alloc o).cell; have d_g2 := fun o o2 => ((g2.alloc o).alloc o2).cell; have e_g2 := fun o => (g2.alloc o).free
    have c_g3 := g3.cell; have f_g3 := g3.free; have a_g3 := fun o => (g3.alloc o).cell; have d_g3 := fun o o2 => ((g3.alloc o).alloc o2).cell; have e_g3 := fun o => (g3.alloc o).free
    have hz1 := B.size; have hp1 := g3.lt
    go_wp2_with fail
    refine (OT.out _ (H.out.below B)).mono ?_
    rintro e wa2 ⟨t', o', s', rfl, om, b⟩
    try clear c_g1 f_g1 a_g1 d_g1 e_g1
    replace g1 := g1.below b; have c_g1 := g1.cell; have f_g1 := g1.free; have a_g1 := fun o => (g1.alloc o).cell; have d_g1 := fun o o2 => ((g1.alloc o).alloc o2).cell; have e_g1 := fun o => (g1.alloc o).free; try clear c_g2 f_g2 a_g2 d_g2 e_g2
    replace g2 := g2.below b; have c_g2 := g2.cell; have f_g2 := g2.free; have a_g2 := fun o => (g2.alloc o).cell; have d_g2 := fun o o2 => ((g2.alloc o).alloc o2).cell; have e_g2 := fun o => (g2.alloc o).free; try clear c_g3 f_g3 a_g3 d_g3 e_g3
    replace g3 := g3.below b; have c_g3 := g3.cell; have f_g3 := g3.free; have a_g3 := fun o => (g3.alloc o).cell; have d_g3 := fun o o2 => ((g3.alloc o).alloc o2).cell; have e_g3 := fun o => (g3.alloc o).free; replace B := B.trans (b.mono B.size); clear b
    obtain ⟨⟨tA, tn, tc, rfl⟩, ⟨oA, on, oc, rfl⟩, _⟩ := om.forms
    obtain ⟨gS, sc, rfl⟩ : ∃ g c, s' = .slice (some ⟨g, 0, none⟩) 16 c := by obtain ⟨g, n, c, e, e2⟩ := om.s.form (by have := H16.out; omega); rw [e2, H16.out] at e; exact ⟨g, c, e⟩
    have hgS := om.s.lt gS rfl
    go_upto_region 2 with (fail)
    refine wp_gen (fun Wv => Bx Wv (wa2.heap.size) (79) (#[.slice tA tn tc, .slice oA on oc, .slice (some ⟨gS, 0, none⟩) 16 sc]) ∧ Below wa2.heap.size wa2 Wv) ⟨((Bx.at_ (by simp))), ((Below.refl _ wa2).alloc (by simp <;> omega) _)⟩ ?_
    rintro wa3 ⟨g4, b⟩
    try clear c_g1 f_g1 a_g1 d_g1 e_g1
    replace g1 := g1.below b; have c_g1 := g1.cell; have f_g1 := g1.free; have a_g1 := fun o => (g1.alloc o).cell; have d_g1 := fun o o2 => ((g1.alloc o).alloc o2).cell; have e_g1 := fun o => (g1.alloc o).free; try clear c_g2 f_g2 a_g2 d_g2 e_g2
    replace g2 := g2.below b; have c_g2 := g2.cell; have f_g2 := g2.free; have a_g2 := fun o => (g2.alloc o).cell; have d_g2 := fun o o2 => ((g2.alloc o).alloc o2).cell; have e_g2 := fun o => (g2.alloc o).free; try clear c_g3 f_g3 a_g3 d_g3 e_g3
    replace g3 := g3.below b; have c_g3 := g3.cell; have f_g3 := g3.free; have a_g3 := fun o => (g3.alloc o).cell; have d_g3 := fun o o2 => ((g3.alloc o).alloc o2).cell; have e_g3 := fun o => (g3.alloc o).free; replace om := om.below b; replace B := B.trans (b.mono B.size); clear b
    have c_g4 := g4.cell; have f_g4 := g4.free; have a_g4 := fun o => (g4.alloc o).cell; have d_g4 := fun o o2 => ((g4.alloc o).alloc o2).cell; have e_g4 := fun o => (g4.alloc o).free
    have HP := Lib.hid (OwnS.put3 (k := k) om.s (by have := H16.out; omega) ⟨g, false, 0⟩)
    obtain ⟨ix, p0, p1, p2⟩ := OwnS.cells om.s HS.out
    have fz := HP.out.2.2.2.2
    have hM3 := OwnM.slots om HP.out.2.1 HP.out.1
    have nx := fun {q : Nat} {tq : TypeId} {cs : Array Value} (hb : Bx wa3 q tq cs) (hne : gS ≠ q) => hb.grown HP.out.2.1 (.inr (fun e => hne (by injection e)))
    have r3 := nx g3 (by omega); have r4 := nx g4 (by omega)
    have hb3 := B.grown HP.out.2.1 B.size (fun k hk => by injection hk with hk; rw [← hk]; have := HP.out.2.2.1; omega)
    have HH := Lib.hid (And.intro hM3 (And.intro r3 (And.intro r4 hb3)))
    clear nx r3 r4 hb3 hM3
    go_upto_region 5 with (fail)
    refine wp_gen (fun Wv => OwnM Wv wa1.heap.size 68 (.slice tA tn tc) (.slice oA on oc) (.slice (some ⟨gS, 0, none⟩) 16 sc) ⟨m.types, m.objs, m.slots.set k ⟨g, false, 0⟩⟩ ∧ Bx Wv (w.heap.size + 1 + 1) 79 #[.slice none 0 0, .slice none 0 0, .slice none 0 0] ∧ Bx Wv wa2.heap.size 79 #[.slice tA tn tc, .slice oA on oc, .slice (some ⟨gS, 0, none⟩) 16 sc] ∧ Below w.heap.size w Wv) HH.out ?_
    rintro wz ⟨om2, r3, r4, B2⟩
    clear HH om g1 g2 g3 g4 B p0 p1 p2 fz ix HP c_g1 f_g1 a_g1 d_g1 e_g1 c_g2 f_g2 a_g2 d_g2 e_g2 c_g3 f_g3 a_g3 d_g3 e_g3 c_g4 f_g4 a_g4 d_g4 e_g4
    have c3 := r3.cell; have f3 := r3.free; have c4 := r4.cell
    go_wp2
    refine bodyPost_ret (v := .tuple #[.agg #[.slice tA tn tc, .slice oA on oc, .slice (some ⟨gS, 0, none⟩) 16 sc], .int .i64 0]) (by simp [results, Try.results87, go_sem, c3, f3]) rfl ?_
    refine ⟨_, _, _, rfl, (OwnM.set3 om2 r3).rd, ?_⟩
    exact ((B2.setCell (p := ⟨w.heap.size + 1 + 1, 0, none⟩) (by simp; omega) _).setCell (p := ⟨w.heap.size + 1 + 1, 1, none⟩) (by simp; omega) _).setCell (p := ⟨w.heap.size + 1 + 1, 2, none⟩) (by simp; omega) _
  · have OT := Lib.hid (fun w h => open20_no tv ov sv m sl g r hr (by rw [hr]; exact ha) w h)
    have hM1 : M = .nil := by rw [hM, dropM, if_neg ha]
    have hne : (r != 0) = true := by rw [bne_iff_ne, hr]; exact ha
    subst hM1
    clear hr hM ha h
    go_enter Try.func87, Try.ntmps87
    go_upto_region 1 with (fail)
    refine wp_gen (fun Wv => Bx Wv (w.heap.size) (79) (#[tv, ov, sv]) ∧ Bx Wv (w.heap.size + 1) (103) (#[.int .i64 sl, .int .i64 g]) ∧ Bx Wv (w.heap.size + 1 + 1) (79) (#[.slice none 0 0, .slice none 0 0, .slice none 0 0]) ∧ Below w.heap.size w Wv) ⟨((((Bx.at_ (by simp)).alloc _).alloc _)), (((Bx.at_ (by simp)).alloc _)), ((Bx.at_ (by simp))), ((((Below.refl _ w).alloc (by simp <;> omega) _).alloc (by simp <;> omega) _).alloc (by simp <;> omega) _)⟩ ?_
    rintro wa1 ⟨g1, g2, g3, b⟩
    replace B := B.trans (b.mono B.size); clear b
    have c_g1 := g1.cell; have f_g1 := g1.free; have a_g1 := fun o => (g1.alloc o).cell; have d_g1 := fun o o2 => ((g1.alloc o).alloc o2).cell; have e_g1 := fun o => (g1.alloc o).free
    have c_g2 := g2.cell; have f_g2 := g2.free; have a_g2 := fun o => (g2.alloc o).cell; have d_g2 := fun o o2 => ((g2.alloc o).alloc o2).cell; have e_g2 := fun o => (g2.alloc o).free
    have c_g3 := g3.cell; have f_g3 := g3.free; have a_g3 := fun o => (g3.alloc o).cell; have d_g3 := fun o o2 => ((g3.alloc o).alloc o2).cell; have e_g3 := fun o => (g3.alloc o).free
    go_wp2_with fail
    refine (OT.out _ (H.out.below B)).mono ?_
    rintro e wa2 ⟨rfl, b⟩
    try clear c_g1 f_g1 a_g1 d_g1 e_g1
    replace g1 := g1.below b; have c_g1 := g1.cell; have f_g1 := g1.free; have a_g1 := fun o => (g1.alloc o).cell; have d_g1 := fun o o2 => ((g1.alloc o).alloc o2).cell; have e_g1 := fun o => (g1.alloc o).free; try clear c_g2 f_g2 a_g2 d_g2 e_g2
    replace g2 := g2.below b; have c_g2 := g2.cell; have f_g2 := g2.free; have a_g2 := fun o => (g2.alloc o).cell; have d_g2 := fun o o2 => ((g2.alloc o).alloc o2).cell; have e_g2 := fun o => (g2.alloc o).free; try clear c_g3 f_g3 a_g3 d_g3 e_g3
    replace g3 := g3.below b; have c_g3 := g3.cell; have f_g3 := g3.free; have a_g3 := fun o => (g3.alloc o).cell; have d_g3 := fun o o2 => ((g3.alloc o).alloc o2).cell; have e_g3 := fun o => (g3.alloc o).free; replace B := B.trans (b.mono B.size); clear b
    go_upto_region 2 with (fail)
    refine wp_gen (fun Wv => Bx Wv (wa2.heap.size) (79) (#[.slice none 0 0, .slice none 0 0, .slice none 0 0]) ∧ Below wa2.heap.size wa2 Wv) ⟨((Bx.at_ (by simp))), ((Below.refl _ wa2).alloc (by simp <;> omega) _)⟩ ?_
    rintro wa3 ⟨g4, b⟩
    try clear c_g1 f_g1 a_g1 d_g1 e_g1
    replace g1 := g1.below b; have c_g1 := g1.cell; have f_g1 := g1.free; have a_g1 := fun o => (g1.alloc o).cell; have d_g1 := fun o o2 => ((g1.alloc o).alloc o2).cell; have e_g1 := fun o => (g1.alloc o).free; try clear c_g2 f_g2 a_g2 d_g2 e_g2
    replace g2 := g2.below b; have c_g2 := g2.cell; have f_g2 := g2.free; have a_g2 := fun o => (g2.alloc o).cell; have d_g2 := fun o o2 => ((g2.alloc o).alloc o2).cell; have e_g2 := fun o => (g2.alloc o).free; try clear c_g3 f_g3 a_g3 d_g3 e_g3
    replace g3 := g3.below b; have c_g3 := g3.cell; have f_g3 := g3.free; have a_g3 := fun o => (g3.alloc o).cell; have d_g3 := fun o o2 => ((g3.alloc o).alloc o2).cell; have e_g3 := fun o => (g3.alloc o).free; replace B := B.trans (b.mono B.size); clear b
    have c_g4 := g4.cell; have f_g4 := g4.free; have a_g4 := fun o => (g4.alloc o).cell; have d_g4 := fun o o2 => ((g4.alloc o).alloc o2).cell; have e_g4 := fun o => (g4.alloc o).free
    go_wp2
    refine bodyPost_ret (v := .tuple #[.agg #[.slice none 0 0, .slice none 0 0, .slice none 0 0], .int .i64 r]) (by simp [results, Try.results87, go_sem, c_g3, f_g3]) rfl ?_
    refine ⟨_, _, _, rfl, Mod.nil _, ?_⟩
    (repeat (first | refine Below.setCell ?_ (by first | exact Nat.le_refl _ | (simp <;> omega)) _ | refine Below.alloc ?_ (by first | exact B.size | (have := B.size; simp <;> omega)) _)); exact B
end Go.Proofs.Ytbfmdbeeiicabaa
namespace Go.Proofs.Ytbfmdbeeiicabaa
open Go.RowKit L02 L13 L18 L20
end Go.Proofs.Ytbfmdbeeiicabaa
namespace Go.Proofs.Ytbfmdbeeiicabaa
open Go.RowKit L02 L13 L18 L20
end Go.Proofs.Ytbfmdbeeiicabaa
namespace Go.Proofs.Ytbfmdbeeiicabaa
open Go.RowKit L02 L13 L18 L20
theorem ob_at {m : Mo} {i : Nat} {o : Ob} (h : m.objs[i]? = some o) : ob m i = o := by simp [ob, List.getD_eq_getElem?_getD, h]
end Go.Proofs.Ytbfmdbeeiicabaa
namespace Go.Proofs.Ytbfmdbeeiicabaa
open Go.RowKit L02 L13 L18 L20
/-- an index of another kind -/
theorem Rd.ixU {w : World} {sz n : Nat} {v : Value} {xs : List Value} {t e : TypeId} (h : Rd w sz v n xs) (ht : Try.prog.underlying t = some (.slice e)) (hi : (Try.prog.info? e).map (·.size) = some sz) {k : Nat} (hk : k < n) (W : World) :
    (Instr.indexAt t v (.int .u64 (k : Int))).run Try.prog W = .ok (.pointer (some (cellAt v (k * sz)))) W := by
  obtain ⟨i, hi', rfl⟩ := Option.map_eq_some_iff.1 hi
  clear hi
  obtain ⟨A, c, rfl, h1, _, h2, h3, h4⟩ := h
  cases A with
  | none => have := h3 rfl; omega
  | some ad =>
    obtain ⟨b, o, s⟩ := ad
    have := (h4 (by omega) _ rfl).1
    simp at this; subst this
    simp [Instr.indexAt, run_underlying ht, asIntOf, hk, sizeOf, typeInfo, hi', cellAt, Addr.add]
theorem Ints.atU {w : World} {v : Value} {l : List Int} (h : Ints w v l) {k : Nat} (hk : k < l.length) :
    ∃ ad x, (∀ W, (Instr.indexAt 89 v (.int .u64 (k : Int))).run Try.prog W = .ok (.pointer (some ad)) W) ∧ w.cell? ad = some (.int .i64 x) ∧ Hid (l[k]? = some x) :=
  ⟨_, l[k], fun W => Rd.ixU h Try.underlying89 one_int hk W, by rw [Nat.mul_one]; exact Rd.cell h (by simp [hk]; rfl), by unfold Hid; simp [hk]⟩
end Go.Proofs.Ytbfmdbeeiicabaa
namespace Go.Proofs.Ytbfmdbeeiicabaa
open Go.RowKit L02 L13 L18 L20
/-- all blocks from b on, but rows of words, are as they were -/
def Fr (b : Nat) (w w' : World) : Prop := w.heap.size ≤ w'.heap.size ∧ ∀ (g : Nat) (t : TypeId) (cs : Array Value), b ≤ g → t ≠ 34 → Bx w g t cs → Bx w' g t cs
theorem Bx.fr {b g : Nat} {w w' : World} {t : TypeId} {cs : Array Value} (h : Bx w g t cs) (hf : Fr b w w') (hb : b ≤ g) (ht : t ≠ 34) : Bx w' g t cs := hf.2 g t cs hb ht h
/-- rows of bytes stay -/
def KeepB (B : Nat) (w w' : World) : Prop := ∀ (v : Value) (l : List UInt8), OwnB w B 5 v l → OwnB w' B 5 v l
theorem OwnT.atB {w : World} {base : Nat} {v : Value} {L : List (List UInt8)} (h : OwnT w base v L) {k : Nat} {l : List UInt8} (hl : L[k]? = some l) :
    ∃ ad y, (∀ W, (Instr.indexAt 39 v (.int .i64 (k : Int))).run Try.prog W = .ok (.pointer (some ad)) W) ∧ w.cell? ad = some y ∧ OwnB w base 5 y l := by
  obtain ⟨vs, h1, h2, h4⟩ := h
  have hk : k < L.length := (List.getElem?_eq_some_iff.1 hl).1
  have hv : vs[k]? = some vs[k] := List.getElem?_eq_getElem (by omega)
  exact ⟨cellAt v (k * 1), vs[k], fun W => Rd.ixN (Rd.of_own h2) Try.underlying39 one_bytes hk W, by rw [Nat.mul_one]; exact Rd.cell (Rd.of_own h2) hv, h4 k _ _ hv hl⟩
/-- right types, not great -/
structure Rough (m : Mo) : Prop where
  n : m.objs.length ≤ 1000
  o : ∀ o ∈ m.objs, (0 ≤ o.ty ∧ o.ty < m.types.length) ∧ o.fs.length = (ty m.types o).length ∧ o.fs.length ≤ 20
set_option maxRecDepth 100000 in
set_option maxHeartbeats 16000000 in
theorem refs_any (m : Mo) (tv ov sv : Value) (fid : Nat) (first cap : Array Value) (B0 : Nat) (J : Nat → Nat → Mo → World → Prop) (w : World) (hw : B0 ≤ w.heap.size) (hr : Rough m) (hcf : ∀ args W, (callFunc fid args).run Try.prog W = .ok (.enter fid args) W)
    (hst : ∀ n i m' W W', J n i m' W → Below W.heap.size W W' → J n i m' W')
    (hnx : ∀ n m' W, n < m.objs.length → J n (ob m n).fs.length m' W → J (n + 1) 0 m' W)
    (hno : ∀ n i m' W, n < m.objs.length → i < (ob m n).fs.length → ((ty m.types (ob m n)).getD i 0).toNat ≠ 3 → J n i m' W → J n (i + 1) m' W)
    (hcl : ∀ n i m' gf W, n < m.objs.length → i < (ob m n).fs.length → ((ty m.types (ob m n)).getD i 0).toNat = 3 → Like m m' → w.heap.size ≤ W.heap.size → OwnM W B0 68 tv ov sv m' → OwnF W B0 ov m'.objs n gf → J n i m' W →
      Calls Try.prog fid (first ++ (#[.int .i64 n, .pointer (some ⟨gf, i, none⟩)] ++ cap)) W fun e W' => e = .returned (.tuple #[]) ∧ ∃ m'', Like m m'' ∧ OwnM W' B0 68 tv ov sv m'' ∧ OwnF W' B0 ov m''.objs n gf ∧ J n (i + 1) m'' W' ∧ Fr w.heap.size W W' ∧ KeepB B0 W W')
    (m0 : Mo) (hl : Like m m0) (h : OwnM w B0 68 tv ov sv m0) (hj : J 0 0 m0 w) :
    Calls Try.prog 118 #[.agg #[tv, ov, sv], .func (.func fid) first cap] w fun e w' => e = .returned (.tuple #[]) ∧ ∃ m', Like m m' ∧ OwnM w' B0 68 tv ov sv m' ∧ J m.objs.length 0 m' w' := by
  obtain ⟨N, hN⟩ : ∃ N, N = m.objs.length := ⟨_, rfl⟩
  have HST := Lib.hid hst; have HNX := Lib.hid hnx; have HNO := Lib.hid hno; have HCL := Lib.hid hcl; have HR := Lib.hid hr; have HN := Lib.hid hN; have HL0 := Lib.hid hl
  have hN1 : N ≤ 1000 := by rw [hN]; exact hr.n
  clear hst hnx hno hcl hr hl hN
  obtain ⟨tA, tn, tc, rfl⟩ := h.forms.1
  obtain ⟨oA, on, oc, rfl⟩ := h.forms.2.1
  obtain ⟨sA, sn, sc, rfl⟩ := h.forms.2.2
  go_enter Try.func118, Try.ntmps118
  go_upto_region 1 with (fail)
  have b := (Below.refl w.heap.size w).alloc (Nat.le_refl _) (.cells #[.slice tA tn tc, .slice oA on oc, .slice sA sn sc] 79)
  refine wp_gen (fun Wv => Bx Wv w.heap.size 79 #[.slice tA tn tc, .slice oA on oc, .slice sA sn sc] ∧ OwnM Wv B0 68 (.slice tA tn tc) (.slice oA on oc) (.slice sA sn sc) m0 ∧ J 0 0 m0 Wv ∧ w.heap.size < Wv.heap.size) ⟨Bx.at_ (by simp), h.below b, HST.out _ _ _ _ _ hj b, by simp⟩ ?_
  clear b h hj
  rintro wa ⟨g1, om, hj, hz⟩
  have c_g1 := g1.cell
  have lo := om.o.rd.len
  rw [HL0.out.2.1, ← HN.out] at lo
  have HI := Lib.hid (And.intro g1 (And.intro om (And.intro HL0.out (And.intro hj hz))))
  clear g1 om hj HL0
  go_wp2
  clear c_g1 lo
  go_loopg [11] N (fun g i wr => ∃ n : Nat, n ≤ N ∧ g = N - n ∧ i = .int .i64 n ∧ Hid (∃ m', Bx wr w.heap.size 79 #[.slice tA tn tc, .slice oA on oc, .slice sA sn sc] ∧ OwnM wr B0 68 (.slice tA tn tc) (.slice oA on oc) (.slice sA sn sc) m' ∧ Like m m' ∧ J n 0 m' wr ∧ w.heap.size < wr.heap.size))
  case atStart => exact ⟨0, by omega, by omega, rfl, Lib.hid ⟨_, HI.out⟩⟩
  case round =>
    clear HI hz
    obtain ⟨n, hn, rfl, rfl, hh⟩ := hrel
    obtain ⟨m', g1, om, hl, hj, hz⟩ := hh.out
    by_cases hlt : n < N
    · have hnm : n < m.objs.length := by rw [← HN.out]; exact hlt
      obtain ⟨o, ho⟩ : ∃ o, m'.objs[n]? = some o := ⟨_, List.getElem?_eq_getElem (by rw [hl.2.1]; exact hnm)⟩
      have hob : ob m' n = o := ob_at ho
      obtain ⟨oo, hoo⟩ : ∃ o, m.objs[n]? = some o := ⟨_, List.getElem?_eq_getElem hnm⟩
      have hoob : ob m n = oo := ob_at hoo
      have hlk := hl.2.2 n
      rw [hob, hoob] at hlk
      obtain ⟨⟨hq0, hq1⟩, hfl, hf20⟩ := HR.out.o oo (List.mem_of_getElem? hoo)
      obtain ⟨q, hq⟩ := Int.eq_ofNat_of_zero_le hq0
      have hqt : q < m'.types.length := by rw [hl.1]; omega
      obtain ⟨t, ht⟩ : ∃ t, m'.types[q]? = some t := ⟨_, List.getElem?_eq_getElem hqt⟩
      have htt : ty m.types oo = t := by rw [ty, hq, ← hl.1]; simp [List.getD_eq_getElem?_getD, ht]
      have hoq : o.ty = (q : Int) := by rw [hlk.1, hq]
      obtain ⟨nt, hnt⟩ : ∃ nt, nt = t.length := ⟨_, rfl⟩
      have hofl : o.fs.length = nt := by rw [hlk.2, hfl, htt, hnt]
      have hnt20 : nt ≤ 20 := by omega
      have HOF := Lib.hid hofl
      have c_g1 := g1.cell
      obtain ⟨ad, yt, iy, m3, hby⟩ := om.t.atB ht
      have ly := Rd.len (OwnB.rd hby) Try.underlying44
      rw [← hnt] at ly
      by_cases hf : 0 < nt
      · obtain ⟨b, bq, gf, nf, cf, ix, p0, p1, hb, of_, hnf, hix⟩ := om.o.at_ ho (by omega)
        rw [hoq] at p0
        rw [hofl] at hix hnf
        obtain rfl : nt = nf := hnf.symm
        have HNT := Lib.hid hnt; clear hnt hofl
        have HC := Lib.hid (And.intro hl (And.intro hj (And.intro om of_)))
        obtain ⟨wn, hwn⟩ : ∃ W, W = wr := ⟨_, rfl⟩
        subst hwn
        clear hh
        go_upto_region 4 with (fail)
        have b' := (Below.refl wn.heap.size wn).alloc (Nat.le_refl _) (.cells #[.int .i64 (q : Int), .slice (some ⟨gf, 0, none⟩) nt cf] 136)
        refine wp_gen (fun Wv => Bx Wv wn.heap.size 136 #[.int .i64 (q : Int), .slice (some ⟨gf, 0, none⟩) nt cf] ∧ Below wn.heap.size wn Wv ∧ wn.heap.size < Wv.heap.size) ?_ ?_
        · exact ⟨Bx.new wn _ _, b', by simp⟩
        clear b' p0 p1 ix
        rintro wb ⟨g5, b5, hz5⟩
        have HX := Lib.hid (And.intro (g1.below b5) (And.intro g5 (And.intro (OwnM.below HC.out.2.2.1 b5) (And.intro (OwnF.below HC.out.2.2.2 b5) (And.intro HC.out.1 (And.intro (HST.out _ _ _ _ _ HC.out.2.1 b5) (And.intro hz5 (own_below hby b5))))))))
        have c_g1 := (g1.below b5).cell
        have c_g5 := g5.cell
        have m3' := cell_later b5 m3
        clear g1 g5 b5 m3 HC om of_ hj hl hby
        go_wp2
        clear c_g1 c_g5 m3' iy
        go_loopg [23] nt (fun g i wr => ∃ p : Nat, p ≤ nt ∧ g = nt - p ∧ i = .int .i64 p ∧ Hid (∃ m', Bx wr w.heap.size 79 #[.slice tA tn tc, .slice oA on oc, .slice sA sn sc] ∧ Bx wr wn.heap.size 136 #[.int .i64 (q : Int), .slice (some ⟨gf, 0, none⟩) nt cf] ∧ OwnM wr B0 68 (.slice tA tn tc) (.slice oA on oc) (.slice sA sn sc) m' ∧ OwnF wr B0 (.slice oA on oc) m'.objs n gf ∧ Like m m' ∧ J n p m' wr ∧ wn.heap.size < wr.heap.size ∧ OwnB wr B0 5 yt t))
        case atStart => exact ⟨0, by omega, by omega, rfl, Lib.hid ⟨_, HX.out⟩⟩
        case round =>
          clear HX
          obtain ⟨p, hp, rfl, rfl, hh⟩ := hrel
          obtain ⟨m2, g1, g5, om, of_, hl, hj, hz2, hby⟩ := hh.out
          have c_g1 := g1.cell
          have c_g5 := g5.cell
          have ix := hix p
          by_cases hltp : p < nt
          · have ix := hix p (by omega)
            obtain ⟨bd, kk, ib, m4, hkk⟩ := ((OwnB.rd hby).at_ (P := Try.prog) Try.underlying44 one_u8 (k := p) (by rw [← HNT.out]; exact hltp))
            have hpm : p < (ob m n).fs.length := by rw [hoob, ← hlk.2, HOF.out]; exact hltp
            have hkm : (ty m.types (ob m n)).getD p 0 = kk := by rw [hoob, htt]; simp [List.getD_eq_getElem?_getD, hkk.out]
            clear hkk
            by_cases h3 : kk.toNat = 3
            · have k3 : ((kk.toNat : Int) == 3) = true := by rw [beq_iff_eq]; omega
              have HCC := Lib.hid (HCL.out n p m2 gf wr hnm hpm (by rw [hkm]; exact h3) hl (by omega) om of_ hj)
              have HG := Lib.hid (And.intro g1 (And.intro g5 (And.intro hby hz2)))
              clear g1 g5 hby hz2 om of_ hl hj
              go_upto_region 8 with (fail)
              go_wp2_with fail
              refine HCC.out.mono ?_
              rintro e w' ⟨rfl, m3, a1, a2, a3, a4, a5, a6⟩
              obtain ⟨g1, g5, hby, hz2⟩ := HG.out
              have HJ := Lib.hid (And.intro (g1.fr a5 (Nat.le_refl _) (by decide)) (And.intro (g5.fr a5 (by omega) (by decide)) (And.intro a2 (And.intro a3 (And.intro a1 (And.intro a4 (And.intro (Nat.lt_of_lt_of_le hz2 a5.1) (a6 _ _ hby))))))))
              clear a1 a2 a3 a4 a5 a6 g1 g5 hby hz2 HG HCC
              go_wp2
              go_roundg (nt - (p + 1))
              case measure => omega
              case rel => exact ⟨p + 1, by omega, rfl, by go_num, Lib.hid ⟨m3, HJ.out⟩⟩
            · have k3 : ((kk.toNat : Int) == 3) = false := by rw [beq_eq_false_iff_ne]; omega
              have HJ := Lib.hid (HNO.out n p m2 wr hnm hpm (by rw [hkm]; exact h3) hj)
              clear hj
              go_wp2
              go_roundg (nt - (p + 1))
              case measure => omega
              case rel => exact ⟨p + 1, by omega, rfl, by go_num, Lib.hid ⟨m2, g1, g5, om, of_, hl, HJ.out, hz2, hby⟩⟩
          · obtain rfl : p = nt := by omega
            have HJ := Lib.hid (HNX.out n m2 wr hnm (by rw [hoob, ← hlk.2, HOF.out]; exact hj))
            clear hj ix
            go_wp2
            go_roundg (N - (n + 1))
            case measure => omega
            case rel => exact ⟨n + 1, by omega, rfl, by go_num, Lib.hid ⟨m2, g1, om, hl, HJ.out, by omega⟩⟩
      · obtain ⟨bo, bq, x0, o2, ix, p0, p1, ho2, hx0, hob2⟩ := (om.o.rd).at_ (k := n) (by rw [hl.2.1]; exact hnm)
        obtain rfl : o2 = o := by have := ho2.out; rw [ho] at this; injection this with e; exact e.symm
        obtain ⟨xA, xn, xc, rfl⟩ : ∃ A n c, x0 = .slice A n c := by obtain ⟨A, c, e, _⟩ := hx0.out; exact ⟨A, _, c, e⟩
        rw [hoq] at p0
        obtain rfl : nt = 0 := by omega
        clear hx0 ho2 hnt
        have HC := Lib.hid (And.intro hl (And.intro hj om))
        obtain ⟨wn, hwn⟩ : ∃ W, W = wr := ⟨_, rfl⟩
        subst hwn
        clear hh
        go_upto_region 4 with (fail)
        have b' := (Below.refl wn.heap.size wn).alloc (Nat.le_refl _) (.cells #[.int .i64 (q : Int), .slice xA xn xc] 136)
        refine wp_gen (fun Wv => Bx Wv wn.heap.size 136 #[.int .i64 (q : Int), .slice xA xn xc] ∧ Below wn.heap.size wn Wv ∧ wn.heap.size < Wv.heap.size) ?_ ?_
        · exact ⟨Bx.new wn _ _, b', by simp⟩
        clear b' p0 p1 ix
        rintro wb ⟨g5, b5, hz5⟩
        have HX := Lib.hid (And.intro (g1.below b5) (And.intro (OwnM.below HC.out.2.2 b5) (And.intro HC.out.1 (And.intro (HST.out _ _ _ _ _ HC.out.2.1 b5) hz5))))
        have c_g1 := (g1.below b5).cell
        have c_g5 := g5.cell
        have m3' := cell_later b5 m3
        clear g1 g5 b5 m3 HC om hj hl hby
        go_wp2
        clear c_g1 c_g5 m3' iy
        go_loopg [23] 0 (fun g i wr => g = 0 ∧ i = .int .i64 0 ∧ Hid (Bx wr w.heap.size 79 #[.slice tA tn tc, .slice oA on oc, .slice sA sn sc] ∧ OwnM wr B0 68 (.slice tA tn tc) (.slice oA on oc) (.slice sA sn sc) m' ∧ Like m m' ∧ J n 0 m' wr ∧ wn.heap.size < wr.heap.size))
        case atStart => exact ⟨rfl, rfl, HX⟩
        case round =>
          clear HX
          obtain ⟨rfl, rfl, hh⟩ := hrel
          obtain ⟨g1, om, hl, hj, hz2⟩ := hh.out
          have HJ := Lib.hid (HNX.out n m' wr hnm (by rw [hoob, ← hlk.2, HOF.out]; exact hj))
          go_wp2
          go_roundg (N - (n + 1))
          case measure => omega
          case rel => exact ⟨n + 1, by omega, rfl, by go_num, Lib.hid ⟨m', g1, om, hl, HJ.out, by omega⟩⟩
    · obtain rfl : n = N := by omega
      go_wp2
      refine bodyPost_end (results_none rfl _ _ _) rfl ?_
      refine ⟨rfl, m', hl, om, ?_⟩
      rw [← HN.out]; exact hj
end Go.Proofs.Ytbfmdbeeiicabaa
namespace Go.Proofs.Ytbfmdbeeiicabaa
open Go.RowKit L02 L13 L18 L20
set_option maxRecDepth 100000 in
set_option maxHeartbeats 4000000 in
theorem Free1_any (k own gf i pb po : Nat) (v : UInt64) (b b' : Bool) (hb' : b' = (b || (decide (k ≠ own) && decide (v.toNat = own + 1)))) (ho : own ≤ 1000) (w : World)
    (hv : w.cell? ⟨gf, i, none⟩ = some (.int .u64 v.toNat)) (hf : w.frozen? ⟨gf, i, none⟩ = false) (g1 : Bx w pb 4 #[.bool b]) (g2 : Bx w po 3 #[.int .i64 own]) (n1 : gf ≠ pb) (n2 : po ≠ pb) :
    Calls Try.prog 119 #[.int .i64 k, .pointer (some ⟨gf, i, none⟩), .pointer (some ⟨pb, 0, none⟩), .pointer (some ⟨po, 0, none⟩)] w fun e w' => e = .returned (.tuple #[]) ∧
      ∃ q, w' = if own + 1 < v.toNat then (((w.drew).setCell ⟨pb, 0, none⟩ (.bool b')).drewN q).setCell ⟨gf, i, none⟩ (.int .u64 (v.toNat - 1 : Nat)) else ((w.drew).setCell ⟨pb, 0, none⟩ (.bool b')).drewN q := by
  obtain ⟨vn, hvn⟩ : ∃ n, n = v.toNat := ⟨_, rfl⟩
  have hvl := v.toNat_lt
  rw [← hvn] at hv hb' hvl ⊢
  have c1 := g1.cell; have f1 := g1.free; have c2 := g2.cell
  have hw1 : IntKind.u64.wrap (own : Int) = (own : Int) := by show (own : Int) % 18446744073709551616 = _; omega
  have hw2 : IntKind.u64.wrap ((own : Int) + 1) = (own : Int) + 1 := by show ((own : Int) + 1) % 18446744073709551616 = _; omega
  have HB := Lib.hid hb'
  clear hb' hvn
  obtain ⟨R, hR⟩ : ∃ R : World → Prop, R = fun w' => ∃ q, w' = if own + 1 < vn then (((w.drew).setCell ⟨pb, 0, none⟩ (.bool b')).drewN q).setCell ⟨gf, i, none⟩ (.int .u64 (vn - 1 : Nat)) else ((w.drew).setCell ⟨pb, 0, none⟩ (.bool b')).drewN q := ⟨_, rfl⟩
  have HR := Lib.hid hR
  have HG := Lib.hid (And.intro (show Bx w.drew pb 4 #[.bool b] from g1) (And.intro (show Bx w.drew po 3 #[.int .i64 own] from g2) (And.intro (show w.drew.cell? ⟨gf, i, none⟩ = some (.int .u64 vn) from hv) (show w.drew.frozen? ⟨gf, i, none⟩ = false from hf))))
  have main : Calls Try.prog 119 #[.int .i64 k, .pointer (some ⟨gf, i, none⟩), .pointer (some ⟨pb, 0, none⟩), .pointer (some ⟨po, 0, none⟩)] w fun e w' => e = .returned (.tuple #[]) ∧ R w' := by
    clear hR g1 g2
    have cases : (b = true ∧ b' = true) ∨ (b = false ∧ b' = false ∧ ((k : Int) != (own : Int)) = false) ∨ (b = false ∧ b' = false ∧ ((k : Int) != (own : Int)) = true ∧ ((vn : Int) == (own : Int) + 1) = false) ∨ (b = false ∧ b' = true ∧ ((k : Int) != (own : Int)) = true ∧ ((vn : Int) == (own : Int) + 1) = true) := by
      rw [HB.out]
      cases b
      · refine .inr ?_
        by_cases hk : k = own
        · exact .inl ⟨rfl, by simp [hk], by rw [bne_eq_false_iff_eq]; omega⟩
        · refine .inr ?_
          by_cases h2 : vn = own + 1
          · exact .inr ⟨rfl, by simp [hk, h2], by rw [bne_iff_ne]; omega, by rw [beq_iff_eq]; omega⟩
          · exact .inl ⟨rfl, by simp [h2], by rw [bne_iff_ne]; omega, by rw [beq_eq_false_iff_ne]; omega⟩
      · exact .inl ⟨rfl, by simp⟩
    rcases cases with ⟨rfl, rfl⟩ | ⟨rfl, rfl, hk1⟩ | ⟨rfl, rfl, hk1, hv1⟩ | ⟨rfl, rfl, hk1, hv1⟩
    all_goals
      clear HB
      go_enter Try.func119, Try.ntmps119
      go_upto_region 0 with (fail)
      refine wp_region_qtail 15 (by kernel_rfl) (by kernel_rfl) ?_
      simp only [List.take_succ_cons, List.take_zero, List.drop_succ_cons, List.drop_zero]
      iterate 15 (go_big_quiet_step (fail))
      refine wpQuiet_nil ?_
      clear c1 f1 c2 hv hf
      have c1 := HG.out.1.cell; have f1 := HG.out.1.free
      go_upto_region 1 with (fail)
      refine wp_gen (fun Wv => Wv = (w.drew).setCell ⟨pb, 0, none⟩ (.bool _)) rfl ?_
      intro W hW
      have hv : W.cell? ⟨gf, i, none⟩ = some (.int .u64 vn) := by rw [hW]; exact cell_far (q := ⟨pb, 0, none⟩) HG.out.2.2.1 n1
      have hf : W.frozen? ⟨gf, i, none⟩ = false := by rw [hW, World.frozen?_setCell]; exact HG.out.2.2.2
      have c2 : ∀ i : Nat, W.cell? ⟨po, i, none⟩ = #[Value.int .i64 (own : Int)][i]? := fun i => by rw [hW]; exact (HG.out.2.1.far (p := ⟨pb, 0, none⟩) n2 _).cell i
      have HW := Lib.hid hW
      clear hW HG c1 f1
      try clear hk1 hv1
      try clear hk1
      by_cases hlt : own + 1 < vn
      · have hd : decide ((own : Int) + 1 < (vn : Int)) = true := by rw [decide_eq_true_iff]; omega
        have hw3 : IntKind.u64.wrap ((vn : Int) - 1) = (vn : Int) - 1 := by show ((vn : Int) - 1) % 18446744073709551616 = _; omega
        go_big_quiet (fail)
        go_wp2
        refine bodyPost_end (results_none rfl _ _ _) rfl ⟨rfl, ?_⟩
        rw [HR.out]
        refine ⟨nq, ?_⟩
        rw [if_pos hlt, ← HW.out]
        congr 2; omega
      · have hd : decide ((own : Int) + 1 < (vn : Int)) = false := by rw [decide_eq_false_iff_not]; omega
        go_big_quiet (fail)
        go_wp2
        refine bodyPost_end (results_none rfl _ _ _) rfl ⟨rfl, ?_⟩
        rw [HR.out]
        refine ⟨nq, ?_⟩
        rw [if_neg hlt, ← HW.out]
  subst hR; exact main
set_option maxRecDepth 100000 in
set_option maxHeartbeats 4000000 in
theorem Canon1_any (k gf i pc pf : Nat) (v : UInt64) (tv ov sv nv rv : Value) (ks : List Int) (x : Int) (w : World) (hx : 0 < v.toNat → ks[v.toNat - 1]? = some x) (hx0 : 0 ≤ x ∧ x ≤ 1000) (hl : v.toNat ≤ 1000)
    (hv : w.cell? ⟨gf, i, none⟩ = some (.int .u64 v.toNat)) (hf : w.frozen? ⟨gf, i, none⟩ = false) (g1 : Bx w pc 180 #[.pointer (some ⟨pf, 0, none⟩)]) (g2 : Bx w pf 183 #[tv, ov, sv, nv, rv]) (hn : Ints w nv ks) :
    Calls Try.prog 124 #[.int .i64 k, .pointer (some ⟨gf, i, none⟩), .pointer (some ⟨pc, 0, none⟩)] w fun e w' => e = .returned (.tuple #[]) ∧
      w' = if 0 < v.toNat then (w.drew).setCell ⟨gf, i, none⟩ (.int .u64 x) else w := by
  obtain ⟨vn, hvn⟩ : ∃ n, n = v.toNat := ⟨_, rfl⟩
  rw [← hvn] at hv hx hl ⊢
  have c1 := g1.cell; have c2 := g2.cell
  have hw3 : IntKind.u64.wrap x = x := by show x % 18446744073709551616 = _; omega
  obtain ⟨R, hR⟩ : ∃ R : World → Prop, R = fun w' => w' = if 0 < vn then (w.drew).setCell ⟨gf, i, none⟩ (.int .u64 x) else w := ⟨_, rfl⟩
  have HR := Lib.hid hR; have HN := Lib.hid hn; have HX := Lib.hid hx
  have main : Calls Try.prog 124 #[.int .i64 k, .pointer (some ⟨gf, i, none⟩), .pointer (some ⟨pc, 0, none⟩)] w fun e w' => e = .returned (.tuple #[]) ∧ R w' := by
    clear hR g1 g2 hn hvn hx
    by_cases h0 : 0 < vn
    · obtain ⟨q, rfl⟩ : ∃ q, vn = q + 1 := ⟨vn - 1, by omega⟩
      have hxx := HX.out h0
      rw [Nat.add_sub_cancel] at hxx
      obtain ⟨nd, x2, ind, m6, hx2⟩ := HN.out.atU (k := q) (List.getElem?_eq_some_iff.1 hxx).1
      obtain rfl : x2 = x := by have := hx2.out; rw [hxx] at this; injection this with e; exact e.symm
      have hv' : w.cell? ⟨gf, i, none⟩ = some (.int .u64 ((q : Int) + 1)) := by rw [hv]; rfl
      have hne : ((q : Int) + 1 != 0) = true := by rw [bne_iff_ne]; omega
      have z2 : IntKind.u64.wrap (q : Int) = (q : Int) := by show (q : Int) % 18446744073709551616 = _; omega
      clear hv h0 hx2 hxx
      go_enter Try.func124, Try.ntmps124
      go_upto_region 1 with (fail)
      refine wp_region_qtail 13 (by kernel_rfl) (by kernel_rfl) ?_
      simp only [List.take_succ_cons, List.take_zero, List.drop_succ_cons, List.drop_zero]
      iterate 13 (go_big_quiet_step (fail))
      refine wpQuiet_nil ?_
      have hv2 : w.drew.cell? ⟨gf, i, none⟩ = some (.int .u64 ((q : Int) + 1)) := hv'
      have hf2 : w.drew.frozen? ⟨gf, i, none⟩ = false := hf
      clear c1 c2 m6 hv' hf
      go_wp2
      refine bodyPost_end (results_none rfl _ _ _) rfl ⟨rfl, ?_⟩
      rw [HR.out]
      show _ = if 0 < q + 1 then _ else _
      rw [if_pos (by omega)]
      rfl
    · obtain rfl : vn = 0 := by omega
      have hv' : w.cell? ⟨gf, i, none⟩ = some (.int .u64 0) := by rw [hv]; rfl
      clear hv
      go_enter Try.func124, Try.ntmps124
      go_wp2
      refine bodyPost_end (results_none rfl _ _ _) rfl ⟨rfl, ?_⟩
      rw [HR.out]
      rfl
  subst hR; exact main
end Go.Proofs.Ytbfmdbeeiicabaa
