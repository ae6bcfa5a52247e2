/- Contracts of the functions that the laws 'N' reach, part 3. No condition. -/
import Derived.Test.YteejianjjpdimaaMNb
set_option linter.unusedVariables false
set_option linter.unusedSimpArgs false
namespace Go.Proofs.Yteejianjjpdimaa.L20
open L02 L13 L18
/-- of the same types -/
def Like (m m' : Mo) : Prop := m'.types = m.types ∧ m'.objs.length = m.objs.length ∧ ∀ k, (ob m' k).ty = (ob m k).ty ∧ (ob m' k).fs.length = (ob m k).fs.length
theorem Like.refl (m : Mo) : Like m m := ⟨rfl, rfl, fun _ => ⟨rfl, rfl⟩⟩
/-- the first i fields changed -/
def mapO (φ : UInt8 → UInt64 → UInt64) (T : List (List UInt8)) (o : Ob) (i : Nat) : Ob := ⟨o.ty, (List.range o.fs.length).map fun j => if j < i then φ ((ty T o).getD j 0) (o.fs.getD j 0) else o.fs.getD j 0⟩
/-- the objects before n changed, and i fields of n -/
def mapP (φ : UInt8 → UInt64 → UInt64) (m : Mo) (n i : Nat) : Mo := ⟨m.types, (List.range m.objs.length).map fun k => if k < n then mapO φ m.types (ob m k) (ob m k).fs.length else if k = n then mapO φ m.types (ob m k) i else ob m k, m.slots⟩
section
variable {φ : UInt8 → UInt64 → UInt64} {m : Mo} {n i : Nat}
theorem mapO_zero (T : List (List UInt8)) (o : Ob) : mapO φ T o 0 = o := by
  obtain ⟨t, fs⟩ := o
  have : (List.range fs.length).map (fun j => fs.getD j 0) = fs := by
    apply List.ext_getElem?
    intro k
    rcases Nat.lt_or_ge k fs.length with h | h
    · simp [h, List.getD_eq_getElem?_getD]
    · rw [List.getElem?_eq_none (by simpa using h), List.getElem?_eq_none h]
  simp only [List.getD_eq_getElem?_getD] at this
  simp [mapO, this]
theorem mapO_len (T : List (List UInt8)) (o : Ob) (i : Nat) : (mapO φ T o i).fs.length = o.fs.length := by simp [mapO]
theorem ob_mapP (k : Nat) (hk : k < m.objs.length) : ob (mapP φ m n i) k = if k < n then mapO φ m.types (ob m k) (ob m k).fs.length else if k = n then mapO φ m.types (ob m k) i else ob m k := by
  rw [ob, List.getD_eq_getElem?_getD]
  simp [mapP, hk]
theorem mapP_zero : mapP φ m 0 0 = m := by
  obtain ⟨T, L, S⟩ := m
  simp only [mapP]
  congr 1
  apply List.ext_getElem?
  intro k
  rcases Nat.lt_or_ge k L.length with h | h
  · simp [h, mapO_zero, ob, List.getD_eq_getElem?_getD]
  · rw [List.getElem?_eq_none (by simpa using h), List.getElem?_eq_none h]
theorem mapP_next : mapP φ m n (ob m n).fs.length = mapP φ m (n + 1) 0 := by
  simp only [mapP]
  congr 1
  refine List.map_congr_left fun k _ => ?_
  by_cases h1 : k < n
  · rw [if_pos h1, if_pos (by omega)]
  · by_cases h2 : k = n
    · subst h2; rw [if_neg h1, if_pos rfl, if_pos (by omega)]
    · rw [if_neg h1, if_neg h2, if_neg (by omega)]
      by_cases h3 : k = n + 1
      · rw [if_pos h3, mapO_zero]
      · rw [if_neg h3]
theorem mapP_like : Like m (mapP φ m n i) := by
  refine ⟨rfl, by simp [mapP], fun k => ?_⟩
  rcases Nat.lt_or_ge k m.objs.length with h | h
  · rw [ob_mapP k h]
    split
    · exact ⟨rfl, mapO_len _ _ _⟩
    · split
      · exact ⟨rfl, mapO_len _ _ _⟩
      · exact ⟨rfl, rfl⟩
  · rw [ob, ob, List.getD_eq_getElem?_getD, List.getD_eq_getElem?_getD, List.getElem?_eq_none (by simpa [mapP] using h), List.getElem?_eq_none h]
    exact ⟨rfl, rfl⟩
theorem mapO_get (T : List (List UInt8)) (o : Ob) {i j : Nat} (hj : j < o.fs.length) : (mapO φ T o i).fs[j]? = some (if j < i then φ ((ty T o).getD j 0) (o.fs.getD j 0) else o.fs.getD j 0) := by
  simp [mapO, hj]
theorem mapO_set (T : List (List UInt8)) (o : Ob) {i : Nat} (hi : i < o.fs.length) : (mapO φ T o i).fs.set i (φ ((ty T o).getD i 0) (o.fs.getD i 0)) = (mapO φ T o (i + 1)).fs := by
  apply List.ext_getElem?
  intro j
  rcases Nat.lt_or_ge j o.fs.length with h | h
  · by_cases hij : i = j
    · subst hij
      rw [List.getElem?_set_self (by rw [mapO_len]; exact hi), mapO_get T o hi, if_pos (by omega)]
    · rw [List.getElem?_set_ne hij, mapO_get T o h, mapO_get T o h]
      by_cases h1 : j < i
      · rw [if_pos h1, if_pos (by omega)]
      · rw [if_neg h1, if_neg (by omega)]
  · rw [List.getElem?_eq_none (by rw [List.length_set, mapO_len]; exact h), List.getElem?_eq_none (by rw [mapO_len]; exact h)]
/-- one more reference is changed -/
theorem mapP_step (hn : n < m.objs.length) (hi : i < (ob m n).fs.length) : putF (mapP φ m n i) n i (φ ((ty m.types (ob m n)).getD i 0) ((ob m n).fs.getD i 0)) = mapP φ m n (i + 1) := by
  have hob : ob (mapP φ m n i) n = mapO φ m.types (ob m n) i := by rw [ob_mapP n hn, if_neg (by omega), if_pos rfl]
  rw [putF, hob]
  show (⟨m.types, (mapP φ m n i).objs.set n ⟨(ob m n).ty, _⟩, m.slots⟩ : Mo) = ⟨m.types, (mapP φ m n (i + 1)).objs, m.slots⟩
  congr 1
  rw [mapO_set m.types _ hi]
  apply List.ext_getElem?
  intro k
  rcases Nat.lt_or_ge k m.objs.length with h | h
  · by_cases hk : n = k
    · subst hk
      rw [List.getElem?_set_self (by simpa [mapP] using h)]
      simp [mapP, h, mapO]
    · rw [List.getElem?_set_ne hk]
      simp only [mapP, List.getElem?_map, List.getElem?_range h, Option.map_some]
      by_cases h1 : k < n
      · rw [if_pos h1, if_pos h1]
      · rw [if_neg h1, if_neg h1, if_neg (Ne.symm hk), if_neg (Ne.symm hk)]
  · rw [List.getElem?_eq_none (by simpa [mapP] using h), List.getElem?_eq_none (by simpa [mapP] using h)]
/-- a field that does not change -/
theorem mapP_skip (h : φ ((ty m.types (ob m n)).getD i 0) ((ob m n).fs.getD i 0) = (ob m n).fs.getD i 0) : mapP φ m n (i + 1) = mapP φ m n i := by
  simp only [mapP]
  congr 1
  refine List.map_congr_left fun k _ => ?_
  by_cases h1 : k < n
  · rw [if_pos h1, if_pos h1]
  · by_cases h2 : k = n
    · subst h2
      rw [if_neg h1, if_pos rfl, if_neg h1, if_pos rfl]
      simp only [mapO]
      congr 1
      refine List.map_congr_left fun j _ => ?_
      by_cases h3 : j < k
      all_goals
        by_cases h4 : j = i
        · subst h4; simp only [List.getD_eq_getElem?_getD] at h; simp [h]
        · have : (j < i + 1) = (j < i) := by rw [eq_iff_iff]; omega
          simp only [this]
    · rw [if_neg h1, if_neg h2, if_neg h1, if_neg h2]
/-- what stands in a field now -/
theorem mapP_fld (hn : n < m.objs.length) (hi : i < (ob m n).fs.length) : ∃ o, (mapP φ m n i).objs[n]? = some o ∧ o.fs[i]? = some ((ob m n).fs.getD i 0) := by
  refine ⟨mapO φ m.types (ob m n) i, ?_, ?_⟩
  · simp [mapP, hn]
  · rw [mapO_get _ _ hi, if_neg (by omega)]
theorem mapP_done : mapP φ m m.objs.length 0 = ⟨m.types, m.objs.map fun o => mapO φ m.types o o.fs.length, m.slots⟩ := by
  simp only [mapP]
  congr 1
  apply List.ext_getElem?
  intro k
  rcases Nat.lt_or_ge k m.objs.length with h | h
  · simp [h, ob, List.getD_eq_getElem?_getD]
  · rw [List.getElem?_eq_none (by simpa using h), List.getElem?_eq_none (by simpa using h)]
end
end Go.Proofs.Yteejianjjpdimaa.L20
namespace Go.Proofs.Yteejianjjpdimaa.L20
open L02 L13 L18
/-- the first j of a list changed -/
def mapT {α : Type} (f : α → α) (L : List α) (j : Nat) : List α := (L.take j).map f ++ L.drop j
section
variable {α : Type} {f : α → α} {L : List α} {k : Nat} {s : α}
theorem mapT_zero : mapT f L 0 = L := by simp [mapT]
theorem mapT_done (h : L.length ≤ k) : mapT f L k = L.map f := by simp [mapT, List.take_of_length_le h, List.drop_of_length_le h]
theorem mapT_len : (mapT f L k).length = L.length := by simp [mapT]; omega
theorem mapT_get (hs : L[k]? = some s) : (mapT f L k)[k]? = some s := by
  have hk : k < L.length := (List.getElem?_eq_some_iff.1 hs).1
  rw [mapT, List.getElem?_append_right (by simp; omega)]
  simp [Nat.min_eq_left (Nat.le_of_lt hk), hs]
theorem mapT_set (hs : L[k]? = some s) : (mapT f L k).set k (f s) = mapT f L (k + 1) := by
  have hk : k < L.length := (List.getElem?_eq_some_iff.1 hs).1
  have hd : L.drop k = s :: L.drop (k + 1) := by
    rw [List.drop_eq_getElem_cons hk]; congr 1
    rw [List.getElem?_eq_getElem hk] at hs; injection hs
  rw [mapT, mapT, List.take_add_one, hs, hd]
  rw [List.set_append_right _ _ (by simp; omega)]
  simp [Nat.min_eq_left (Nat.le_of_lt hk)]
theorem mapT_same (hs : L[k]? = some s) (hf : f s = s) : mapT f L (k + 1) = mapT f L k := by
  rw [← mapT_set hs, hf]
  apply List.ext_getElem?
  intro i
  by_cases hi : i = k
  · subst hi
    rw [List.getElem?_set_self (by rw [mapT_len]; exact (List.getElem?_eq_some_iff.1 hs).1), mapT_get hs]
  · rw [List.getElem?_set_ne (Ne.symm hi)]
end
/-- a field of another object, before field i of object n, refers to q -/
def refTo (m : Mo) (q n i : Nat) : Prop := ∃ a b, (a < n ∨ a = n ∧ b < i) ∧ a < m.objs.length ∧ b < (ob m a).fs.length ∧ a ≠ q ∧ isRef m (ob m a) b q
/-- a slot before j refers to q -/
def sloTo (S : List Sl) (q j : Nat) : Prop := ∃ a s, a < j ∧ S[a]? = some s ∧ s.used = true ∧ s.at_ = (q : Int)
section
variable {m : Mo} {q n i : Nat}
theorem refTo_zero : ¬ refTo m q 0 0 := by rintro ⟨a, b, h, _⟩; omega
theorem refTo_next (hn : n < m.objs.length) : refTo m q n (ob m n).fs.length ↔ refTo m q (n + 1) 0 := by
  constructor
  · rintro ⟨a, b, h, h1, h2, h3⟩; exact ⟨a, b, by omega, h1, h2, h3⟩
  · rintro ⟨a, b, h, h1, h2, h3⟩
    refine ⟨a, b, ?_, h1, h2, h3⟩
    by_cases ha : a = n
    · subst ha; exact .inr ⟨rfl, h2⟩
    · exact .inl (by omega)
theorem refTo_step (hn : n < m.objs.length) (hi : i < (ob m n).fs.length) : refTo m q n (i + 1) ↔ (refTo m q n i ∨ (n ≠ q ∧ isRef m (ob m n) i q)) := by
  constructor
  · rintro ⟨a, b, h, h1, h2, h3, h4⟩
    by_cases hab : a = n ∧ b = i
    · obtain ⟨rfl, rfl⟩ := hab; exact .inr ⟨h3, h4⟩
    · exact .inl ⟨a, b, by omega, h1, h2, h3, h4⟩
  · rintro (⟨a, b, h, h1, h2, h3, h4⟩ | ⟨h3, h4⟩)
    · exact ⟨a, b, by omega, h1, h2, h3, h4⟩
    · exact ⟨n, i, by omega, hn, hi, h3, h4⟩
theorem refTo_done : refTo m q m.objs.length 0 ↔ ∃ i, i < m.objs.length ∧ i ≠ q ∧ ∃ k, k < (ob m i).fs.length ∧ isRef m (ob m i) k q := by
  constructor
  · rintro ⟨a, b, h, h1, h2, h3, h4⟩; exact ⟨a, h1, h3, b, h2, h4⟩
  · rintro ⟨a, h1, h3, b, h2, h4⟩; exact ⟨a, b, .inl h1, h1, h2, h3, h4⟩
theorem sloTo_zero {S : List Sl} : ¬ sloTo S q 0 := by rintro ⟨a, s, h, _⟩; omega
theorem sloTo_step {S : List Sl} {j : Nat} {s : Sl} (hs : S[j]? = some s) : sloTo S q (j + 1) ↔ (sloTo S q j ∨ (s.used = true ∧ s.at_ = (q : Int))) := by
  constructor
  · rintro ⟨a, t, h, h1, h2⟩
    by_cases ha : a = j
    · subst ha; rw [hs] at h1; injection h1 with h1; subst h1; exact .inr h2
    · exact .inl ⟨a, t, by omega, h1, h2⟩
  · rintro (⟨a, t, h, h1, h2⟩ | h2)
    · exact ⟨a, t, by omega, h1, h2⟩
    · exact ⟨j, s, by omega, hs, h2⟩
/-- what keeps an object from being freed -/
theorem busy_iff {k : Nat} {g : Int} (hk : k < m.slots.length) (n : Nat) : Busy m (k : Int) n ↔ (sloTo (m.slots.set k ⟨g, false, 0⟩) n m.slots.length ∨ refTo m n m.objs.length 0) := by
  rw [refTo_done]
  refine or_congr ?_ Iff.rfl
  constructor
  · rintro ⟨i, hi, hne, hu, ha⟩
    refine ⟨i, m.slots[i], hi, ?_, ?_⟩
    · rw [List.getElem?_set_ne (by omega), List.getElem?_eq_getElem hi]
    · simp only [List.getD_eq_getElem?_getD, List.getElem?_eq_getElem hi, Option.getD_some] at hu ha
      exact ⟨hu, ha⟩
  · rintro ⟨i, s, hi, hs, hu, ha⟩
    by_cases hik : k = i
    · subst hik
      rw [List.getElem?_set_self hk] at hs
      injection hs with hs; subst hs; cases hu
    · rw [List.getElem?_set_ne hik] at hs
      refine ⟨i, hi, by omega, ?_, ?_⟩
      · simp [List.getD_eq_getElem?_getD, hs, hu]
      · simp [List.getD_eq_getElem?_getD, hs, ha]
end
theorem range_filter (a : Nat) : ∀ N, (List.range N).filter (fun n => decide (n = a)) = if a < N then [a] else []
  | 0 => by simp
  | N + 1 => by
    rw [List.range_succ, List.filter_append, range_filter a N]
    by_cases h : a < N
    · rw [if_pos h, if_pos (by omega)]
      have : ¬ N = a := by omega
      simp [this]
    · rw [if_neg h]
      by_cases h2 : a = N
      · subst h2; simp
      · rw [if_neg (by omega)]
        have : ¬ N = a := fun e => h2 e.symm
        simp [this]
/-- .. and what it is made of -/
theorem free_map {m : Mo} {q : Nat} {S : List Sl} : mapP (lowV q) ⟨m.types, m.objs, S⟩ m.objs.length 0 = ⟨m.types, m.objs.map (lowO m q), S⟩ := by
  have := mapP_done (φ := lowV q) (m := ⟨m.types, m.objs, S⟩)
  dsimp only at this
  rw [this]
  congr 1
  refine List.map_congr_left fun o _ => ?_
  rw [mapO, lowO]
  congr 1
  refine List.map_congr_left fun j hj => ?_
  rw [if_pos (List.mem_range.1 hj)]
end Go.Proofs.Yteejianjjpdimaa.L20
namespace Go.Proofs.Yteejianjjpdimaa.L20
open L02 L13 L18
def rootsFrom (m : Mo) (j : Nat) : List Nat := (m.slots.drop j).filterMap rootOf
theorem rootsFrom_step {m : Mo} {j : Nat} {s : Sl} (hs : m.slots[j]? = some s) : rootsFrom m j = (match rootOf s with | none => [] | some c => [c]) ++ rootsFrom m (j + 1) := by
  have hj : j < m.slots.length := (List.getElem?_eq_some_iff.1 hs).1
  have hd : m.slots.drop j = s :: m.slots.drop (j + 1) := by
    rw [List.drop_eq_getElem_cons hj]; congr 1
    rw [List.getElem?_eq_getElem hj] at hs; injection hs
  rw [rootsFrom, hd, List.filterMap_cons]
  cases rootOf s <;> rfl
def natI (l : List Nat) : List Int := l.map fun n : Nat => (n : Int)
theorem natI_len (l : List Nat) : (natI l).length = l.length := by simp [natI]
theorem natI_snoc (l : List Nat) (x : Nat) : natI (l ++ [x]) = natI l ++ [(x : Int)] := by simp [natI]
def seenV (N : Nat) (ord : List Nat) : List Bool := (List.range N).map fun i => decide (i ∈ ord)
/-- what is known of a kid -/
theorem kidAt_some {m : Mo} {o : Ob} {i c : Nat} (h : kidAt m o i = some c) : ((ty m.types o).getD i 0).toNat = 3 ∧ (o.fs.getD i 0).toNat = c + 1 := by
  unfold kidAt at h
  split at h
  · rename_i h1; injection h with h; exact ⟨h1.1, by omega⟩
  · cases h
theorem kids_lt {m : Mo} (hc : chk m = 0) : ∀ n, n < m.objs.length → ∀ k ∈ kids m n, k < m.objs.length := by
  intro n hn k hk
  obtain ⟨_, _, h3⟩ := chk_ok hc
  rw [kids, kidsTo, List.mem_filterMap] at hk
  obtain ⟨i, hi, hk⟩ := hk
  have hi := List.mem_range.1 hi
  have h1 := kidAt_some hk
  have hoo : ObOk m.types m.objs.length (ob m n) := h3.2.2.1 _ (by rw [ob, List.getD_eq_getElem?_getD, List.getElem?_eq_getElem hn]; exact List.getElem_mem hn)
  have := (hoo.2.2 i hi).2 h1.1
  omega
theorem roots_lt {m : Mo} (hc : chk m = 0) : ∀ n ∈ roots m, n < m.objs.length := by
  intro n hn
  obtain ⟨_, _, h3⟩ := chk_ok hc
  rw [roots, List.mem_filterMap] at hn
  obtain ⟨s, hs, hn⟩ := hn
  unfold rootOf at hn
  split at hn
  · rename_i hu
    injection hn with hn
    obtain ⟨a1, a2, a3⟩ := (h3.2.2.2 s hs).2.2 hu
    omega
  · cases hn
/-- what is reached -/
structure Reach (m : Mo) (out : List Nat) : Prop where
  rs : Rs m [] (roots m) out
  nd : out.Nodup
  lt : ∀ n ∈ out, n < m.objs.length
  len : out.length ≤ m.objs.length
theorem Reach.of {m : Mo} (hc : chk m = 0) {out : List Nat} (h : Rs m [] (roots m) out) : Reach m out := by
  have nd := h.nodup List.nodup_nil
  have lt := h.all (p := fun n => n < m.objs.length) (kids_lt hc) (by simp) (roots_lt hc)
  exact ⟨h, nd, lt, nodup_lt nd lt⟩
theorem canN_len (m : Mo) (out : List Nat) : (canN m out).length = m.objs.length := by simp [canN]
theorem canN_get {m : Mo} {out : List Nat} {n : Nat} (h : n < m.objs.length) : (canN m out)[n]? = some (if n ∈ out then (out.idxOf n : Int) else -1) := by simp [canN, h]
theorem idxOf_snoc {l : List Nat} {x y : Nat} (hx : x ∉ l) : (l ++ [x]).idxOf y = if y ∈ l then l.idxOf y else if y = x then l.length else l.length + 1 := by
  rw [List.idxOf_append]
  by_cases h : y ∈ l
  · rw [if_pos h, if_pos h]
  · rw [if_neg h, if_neg h]
    by_cases h2 : y = x
    · subst h2; simp
    · rw [if_neg h2]
      have : (x == y) = false := by rw [beq_eq_false_iff_ne]; exact Ne.symm h2
      simp [List.idxOf_cons, this]; omega
/-- the numbers of what is found, and 1 -/
def numsI (m : Mo) (ord : List Nat) : List Int := (List.range m.objs.length).map fun n => if n ∈ ord then (ord.idxOf n : Int) + 1 else 0
theorem numsI_len (m : Mo) (ord : List Nat) : (numsI m ord).length = m.objs.length := by simp [numsI]
theorem numsI_get {m : Mo} {ord : List Nat} {n : Nat} (h : n < m.objs.length) : (numsI m ord)[n]? = some (if n ∈ ord then (ord.idxOf n : Int) + 1 else 0) := by simp [numsI, h]
theorem numsI_nil (m : Mo) : numsI m [] = List.replicate m.objs.length 0 := by
  apply List.ext_getElem?
  intro i
  rcases Nat.lt_or_ge i m.objs.length with hi | hi
  · rw [numsI_get hi, List.getElem?_replicate, if_pos hi]; simp
  · rw [List.getElem?_eq_none (by rw [numsI_len]; exact hi), List.getElem?_eq_none (by simpa using hi)]
theorem numsI_step {m : Mo} {ord : List Nat} {n : Nat} (hni : n ∉ ord) (hlt : n < m.objs.length) : (numsI m ord).set n ((ord.length : Int) + 1) = numsI m (ord ++ [n]) := by
  apply List.ext_getElem?
  intro k
  rcases Nat.lt_or_ge k m.objs.length with hk | hk
  · by_cases hkn : n = k
    · subst hkn
      rw [List.getElem?_set_self (by rw [numsI_len]; exact hk), numsI_get hk, if_pos (by simp), idxOf_snoc hni, if_neg hni, if_pos rfl]
    · rw [List.getElem?_set_ne hkn, numsI_get hk, numsI_get hk]
      by_cases hm : k ∈ ord
      · rw [if_pos hm, if_pos (List.mem_append_left _ hm), idxOf_snoc hni, if_pos hm]
      · rw [if_neg hm, if_neg (by simp [hm]; exact fun e => hkn e.symm)]
  · rw [List.getElem?_eq_none (by rw [List.length_set, numsI_len]; exact hk), List.getElem?_eq_none (by rw [numsI_len]; exact hk)]
/-- the next kid -/
theorem Rs.kid {m : Mo} {o : Ob} {ord mid out : List Nat} {i c : Nat} (hi : i < o.fs.length) (h : Rs m ord (kidsTo m o o.fs.length) out) (h1 : Rs m ord (kidsTo m o i) mid) (hc : kidAt m o i = some c) : ∃ mid2, Rs m mid [c] mid2 ∧ Rs m ord (kidsTo m o (i + 1)) mid2 := by
  rw [kids_split (Nat.le_of_lt hi), kidsFrom_step hi, hc] at h
  obtain ⟨mid', a1, a2⟩ := h.app rfl
  obtain rfl := a1.det h1
  obtain ⟨mid2, b1, b2⟩ := a2.app (a := [c]) rfl
  exact ⟨mid2, b1, by rw [kidsTo_step, hc]; exact a1.join b1⟩
end Go.Proofs.Yteejianjjpdimaa.L20
namespace Go.Proofs.Yteejianjjpdimaa.L20
open L02 L13 L18
theorem numO_mapO (m : Mo) (ns : List Int) (o : Ob) : numO m ns o = mapO (numV ns) m.types o o.fs.length := by
  rw [numO, mapO]
  congr 1
  refine List.map_congr_left fun j hj => ?_
  rw [if_pos (List.mem_range.1 hj)]
theorem idxOf_eq {out : List Nat} (hn : out.Nodup) {n j : Nat} (h : n ∈ out) : out.idxOf n = j ↔ out[j]? = some n := by
  constructor
  · rintro rfl
    rw [List.getElem?_eq_getElem (List.idxOf_lt_length_of_mem h), List.getElem_idxOf]
  · intro hj
    have h1 : out[out.idxOf n]? = some n := by rw [List.getElem?_eq_getElem (List.idxOf_lt_length_of_mem h), List.getElem_idxOf]
    exact (List.getElem?_inj (List.idxOf_lt_length_of_mem h) hn).1 (h1.trans hj.symm)
theorem numN_can {m : Mo} {out : List Nat} (hr : Reach m out) (j : Nat) : numN m (canN m out) j (canN m out).length = match out[j]? with | none => [] | some n => [numO m (canN m out) (ob m n)] := by
  rw [canN_len]
  have e : ∀ a, (out[j]? = some a → (List.range m.objs.length).filter (fun n => decide ((canN m out).getD n (-2) = (j : Int))) = (List.range m.objs.length).filter (fun n => decide (n = a))) := fun a ha => by
    refine List.filter_congr fun n hn => ?_
    have hn := List.mem_range.1 hn
    rw [List.getD_eq_getElem?_getD, canN_get hn, Option.getD_some]
    congr 1
    rw [eq_iff_iff]
    by_cases h : n ∈ out
    · rw [if_pos h]
      constructor
      · intro h1
        have h2 : out.idxOf n = j := by omega
        have := (idxOf_eq hr.nd h).1 h2
        rw [ha] at this; injection this with this; exact this.symm
      · rintro rfl
        have := (idxOf_eq hr.nd h).2 ha
        omega
    · rw [if_neg h]
      constructor
      · intro h1; omega
      · rintro rfl; exact absurd (List.mem_of_getElem? ha) h
  cases hj : out[j]? with
  | some a =>
    rw [numN, e a hj, range_filter, if_pos (hr.lt a (List.mem_of_getElem? hj))]; rfl
  | none =>
    rw [numN]
    have : (List.range m.objs.length).filter (fun n => decide ((canN m out).getD n (-2) = (j : Int))) = [] := by
      rw [List.filter_eq_nil_iff]
      intro n hn
      have hn := List.mem_range.1 hn
      rw [List.getD_eq_getElem?_getD, canN_get hn, Option.getD_some, decide_eq_true_iff]
      split
      · rename_i h
        intro h1
        have h2 : out.idxOf n = j := by omega
        have := (idxOf_eq hr.nd h).1 h2
        rw [hj] at this; cases this
      · omega
    rw [this]; rfl
theorem numJ_can {m : Mo} {out : List Nat} (hr : Reach m out) : ∀ j, numJ m (canN m out) j = (out.take j).map fun n => numO m (canN m out) (ob m n)
  | 0 => by simp [numJ]
  | j + 1 => by
    rw [numJ_succ, numJ_can hr j, numN_can hr j, List.take_add_one, List.map_append]
    cases out[j]? <;> rfl
theorem canM_eq {m : Mo} {out : List Nat} (hr : Reach m out) : canM m out = ⟨m.types, out.map fun n => mapO (numV (canN m out)) m.types (ob m n) (ob m n).fs.length, m.slots.map (numS (canN m out))⟩ := by
  rw [canM, numM]
  congr 1
  rw [numJ_can hr, canN_len, List.take_of_length_le hr.len]
  refine List.map_congr_left fun n _ => numO_mapO m _ _
/-- the model of what is reached, with the old numbers -/
def canB (m : Mo) (out : List Nat) : Mo := ⟨m.types, out.map (ob m), m.slots⟩
theorem canB_done {m : Mo} {out : List Nat} (hr : Reach m out) (φ : UInt8 → UInt64 → UInt64) : mapP φ (canB m out) out.length 0 = ⟨m.types, out.map fun n => mapO φ m.types (ob m n) (ob m n).fs.length, m.slots⟩ := by
  have h := mapP_done (φ := φ) (m := canB m out)
  have hl : (canB m out).objs.length = out.length := by simp [canB]
  rw [hl] at h
  rw [h]
  simp [canB]
theorem canB_ob {m : Mo} {out : List Nat} {i : Nat} (hi : i < out.length) : ob (canB m out) i = ob m out[i] := by
  simp [canB, ob, List.getD_eq_getElem?_getD, List.getElem?_map, List.getElem?_eq_getElem hi]
theorem Reach.closed {m : Mo} {out : List Nat} (h : Reach m out) : ∀ n ∈ out, ∀ k ∈ kids m n, k ∈ out := h.rs.closed (by simp)
/-- a reference of an object that is reached -/
theorem can_ref {m : Mo} {out : List Nat} (hc : chk m = 0) (hr : Reach m out) {n i : Nat} (hn : n < (canB m out).objs.length) (hi : i < (ob (canB m out) n).fs.length) (h3 : ((ty m.types (ob (canB m out) n)).getD i 0).toNat = 3) :
    ((ob (canB m out) n).fs.getD i 0).toNat ≤ 960 ∧ (0 < ((ob (canB m out) n).fs.getD i 0).toNat → ∃ x : Nat, (numsI m out)[((ob (canB m out) n).fs.getD i 0).toNat - 1]? = some ((x : Int) + 1) ∧ x < 960 ∧ (numV (canN m out) ((ty m.types (ob (canB m out) n)).getD i 0) ((ob (canB m out) n).fs.getD i 0)).toNat = x + 1) := by
  have hl : n < out.length := by simpa [canB] using hn
  rw [canB_ob hl] at hi h3 ⊢
  have hmem : out[n] ∈ out := List.getElem_mem hl
  have hlt := hr.lt _ hmem
  obtain ⟨_, ho, h4⟩ := chk_ok hc
  have hoo : ObOk m.types m.objs.length (ob m out[n]) := h4.2.2.1 _ (by rw [ob, List.getD_eq_getElem?_getD, List.getElem?_eq_getElem hlt]; exact List.getElem_mem hlt)
  have hv := (hoo.2.2 i hi).2 h3
  refine ⟨by omega, fun h0 => ?_⟩
  have hk : ((ob m out[n]).fs.getD i 0).toNat - 1 ∈ kids m out[n] := by
    rw [kids, kidsTo, List.mem_filterMap]
    exact ⟨i, List.mem_range.2 hi, by rw [kidAt, if_pos ⟨h3, h0⟩]⟩
  have hin := hr.closed _ hmem _ hk
  have hil := List.idxOf_lt_length_of_mem hin
  have := hr.len
  have hq : ((ob m out[n]).fs.getD i 0).toNat - 1 < m.objs.length := by omega
  refine ⟨out.idxOf (((ob m out[n]).fs.getD i 0).toNat - 1), by rw [numsI_get hq, if_pos hin], by omega, ?_⟩
  rw [numV, if_pos ⟨h3, h0⟩, List.getD_eq_getElem?_getD, canN_get hq, if_pos hin, Option.getD_some]
  rw [UInt64.toNat_ofNat_of_lt' (by unfold UInt64.size; omega)]
  omega
end Go.Proofs.Yteejianjjpdimaa.L20
namespace Go.Proofs.Yteejianjjpdimaa.L20
open L02 L13 L18
def exM : Mo := ⟨[[3]], [⟨0, [2]⟩, ⟨0, [0]⟩], ⟨1, true, 0⟩ :: ⟨1, true, 1⟩ :: List.replicate 14 Sl.none⟩
def exD : Mo := ⟨[[3]], [⟨0, [2]⟩, ⟨0, [0]⟩], ⟨1, true, 0⟩ :: List.replicate 1 ⟨1, false, 0⟩ ++ List.replicate 14 Sl.none⟩
def exN : Mo := ⟨[[3]], [⟨0, [2]⟩, ⟨0, [0]⟩], ⟨1, false, 0⟩ :: List.replicate 1 ⟨1, false, 0⟩ ++ List.replicate 14 Sl.none⟩
theorem ex_free : freeE exM 1 1 = 45 := by decide +kernel
theorem ex_a1 : asked exM 1 1 = 0 := by decide +kernel
theorem ex_d1 : dropM exM 1 1 = exD := by decide +kernel
theorem exD_chk : chk exD = 0 := by decide +kernel
theorem ex_a2 : asked exD 0 1 = 0 := by decide +kernel
theorem ex_d2 : dropM exD 0 1 = exN := by decide +kernel
theorem exN_chk : chk exN = 0 := by decide +kernel
theorem exD_rs : Rs exD [] (roots exD) [0, 1] := by
  have h1 : roots exD = [0] := by decide +kernel
  have h2 : kids exD 0 = [1] := by decide +kernel
  have h3 : kids exD 1 = [] := by decide +kernel
  rw [h1]
  refine .new (by simp) ?_
  rw [h2]
  refine .new (by simp) ?_
  rw [h3]
  exact .nil _
theorem exN_rs : Rs exN [] (roots exN) [] := by
  have h1 : roots exN = [] := by decide +kernel
  rw [h1]; exact .nil _
theorem exD_len : (canM exD [0, 1]).objs.length = 2 := by rw [canM_eq (Reach.of exD_chk exD_rs)]; rfl
theorem exN_len : (canM exN []).objs.length = 0 := by rw [canM_eq (Reach.of exN_chk exN_rs)]; rfl
end Go.Proofs.Yteejianjjpdimaa.L20
namespace Go.Proofs.Yteejianjjpdimaa.L18
open L02
theorem nextFrom_some : ∀ {L : List Sl} {j k : Nat}, nextFrom L j = some k → j ≤ k ∧ (∃ s, L[k - j]? = some s ∧ s.used = false ∧ s.gen ≠ 2147483647) ∧ ∀ i s, i < k - j → L[i]? = some s → ¬ (s.used = false ∧ s.gen ≠ 2147483647)
  | [], _, _, h => by cases h
  | s :: L, j, k, h => by
    rw [nextFrom] at h
    split at h
    · rename_i h2
      injection h with h
      subst h
      exact ⟨Nat.le_refl _, ⟨s, by simp, h2⟩, fun i t hi => by omega⟩
    · rename_i h2
      obtain ⟨h1, ⟨t, h3, h4⟩, h5⟩ := nextFrom_some h
      refine ⟨by omega, ⟨t, by rw [show k - j = (k - (j + 1)) + 1 by omega, List.getElem?_cons_succ]; exact h3, h4⟩, fun i u hi hu => ?_⟩
      cases i with
      | zero => simp at hu; subst hu; exact h2
      | succ i => exact h5 i u (by omega) (by simpa using hu)
end Go.Proofs.Yteejianjjpdimaa.L18
namespace Go.Proofs.Yteejianjjpdimaa.L20
open L02 L13 L18
theorem zeros_get (n i : Nat) : (List.replicate n (0 : UInt64)).getD i 0 = 0 := by
  rw [List.getD_eq_getElem?_getD, List.getElem?_replicate]; split <;> rfl
/-- what is known of an object that was allocated -/
structure Alld (m : Mo) (t : Int) (k : Nat) (g0 : Int) : Prop where
  hc : chk m = 0
  ht : 0 ≤ t ∧ t < m.types.length
  hn : m.objs.length < 960
  hk : k < 16
  hs : m.slots[k]? = some ⟨g0, false, 0⟩
  hg : 0 ≤ g0 ∧ g0 < 2147483647
  hM : allM m t = ⟨m.types, m.objs ++ [newO m t], m.slots.set k ⟨g0 + 1, true, m.objs.length⟩⟩
  hS : allS m t = k
  hG : allG m t = g0 + 1
theorem Alld.of {m : Mo} {t : Int} (h : allE m t = 0) : ∃ k g0, Alld m t k g0 := by
  have h' := h
  unfold allE at h
  split at h
  · rename_i hc
    obtain ⟨h8, h960, h16, hty, hobs, hsl⟩ := chk_ok hc
    split at h
    · rename_i ht
      split at h
      · omega
      · rename_i hnx
        split at h
        · omega
        · rename_i hl
          obtain ⟨k, hk⟩ := Option.ne_none_iff_exists'.1 hnx
          obtain ⟨_, ⟨s, hs, hu, hg1⟩, _⟩ := nextFrom_some hk
          rw [Nat.sub_zero] at hs
          have hkl : k < 16 := by have := (List.getElem?_eq_some_iff.1 hs).1; omega
          have hsk := hsl s (List.mem_of_getElem? hs)
          obtain ⟨g0, u, a⟩ := s
          dsimp only at hu hg1
          subst hu
          obtain rfl : a = 0 := hsk.2.1 rfl
          have hgd : m.slots.getD k .none = ⟨g0, false, 0⟩ := by rw [List.getD_eq_getElem?_getD, hs]; rfl
          have hg2 := hsk.1
          dsimp only at hg2
          refine ⟨k, g0, hc, ht, by omega, hkl, hs, by omega, ?_, ?_, ?_⟩
          · rw [allM, if_pos h', hk, Option.getD_some, givS, hgd]
          · rw [allS, if_pos h', hk, Option.getD_some]
          · rw [allG, if_pos h', hk, Option.getD_some, hgd]
    · omega
  · omega
section
variable {m : Mo} {t : Int} {k : Nat} {g0 : Int} (h : Alld m t k g0)
include h
/-- the new model -/
theorem Alld.slot : (m.slots.set k ⟨g0 + 1, true, m.objs.length⟩)[k]? = some ⟨g0 + 1, true, m.objs.length⟩ := by
  have h1 := (List.getElem?_eq_some_iff.1 h.hs).1
  rw [List.getElem?_set_self h1]
theorem Alld.ok : chk (allM m t) = 0 := by
  obtain ⟨h8, h960, h16, hty, hobs, hsl⟩ := chk_ok h.hc
  have hn := h.hn
  rw [h.hM]
  refine chk_zero (by simp; omega) ⟨by simpa using h16, hty, fun o ho => ?_, fun s hs => ?_⟩
  · rcases List.mem_append.1 ho with ho | ho
    · obtain ⟨a1, a2, a3⟩ := hobs o ho
      refine ⟨a1, a2, fun i hi => ?_⟩
      obtain ⟨b1, b2⟩ := a3 i hi
      exact ⟨b1, fun e => Nat.le_trans (b2 e) (by simp)⟩
    · rw [List.mem_singleton] at ho
      subst ho
      have ht := h.ht
      refine ⟨ht, by simp [newO, ty], fun i hi => ?_⟩
      simp only [newO, zeros_get]
      exact ⟨fun _ => by decide, fun _ => by simp⟩
  · rcases List.mem_or_eq_of_mem_set hs with hs | hs
    · obtain ⟨a1, a2, a3⟩ := hsl s hs
      exact ⟨a1, a2, fun e => by have := a3 e; simp; omega⟩
    · subst hs
      have := h.hg
      refine ⟨?_, ?_, ?_⟩
      · dsimp only; omega
      · intro e; cases e
      · intro _; simp; omega
theorem Alld.len : (allM m t).objs.length = m.objs.length + 1 := by rw [h.hM]; simp
theorem Alld.obj : (allM m t).objs[m.objs.length]? = some (newO m t) := by rw [h.hM]; simp
theorem Alld.right : rightErr (allM m t).slots k (g0 + 1) = 0 := by
  have hk := h.hk
  have hs := h.slot
  have h16 := (chk_ok h.hc).2.2.1
  have hgd : (m.slots.set k ⟨g0 + 1, true, m.objs.length⟩).getD k .none = ⟨g0 + 1, true, m.objs.length⟩ := by rw [List.getD_eq_getElem?_getD, hs]; rfl
  rw [h.hM, rightErr, if_pos (by simp; omega), if_pos]
  rw [Int.toNat_natCast, hgd]
  exact ⟨rfl, rfl⟩
theorem Alld.own : own (allM m t) k = m.objs.length := by
  rw [L20.own, Int.toNat_natCast, h.hM, List.getD_eq_getElem?_getD, h.slot]; simp
theorem Alld.idle : ¬ Busy (allM m t) k m.objs.length := by
  obtain ⟨h8, h960, h16, hty, hobs, hsl⟩ := chk_ok h.hc
  rw [h.hM]
  rintro (⟨i, hi, hne, hu, ha⟩ | ⟨i, hi, hne, j, hj, hr⟩)
  · have hik : k ≠ i := fun e => hne (by rw [e])
    have hi' : i < m.slots.length := by simpa using hi
    have e : (m.slots.set k ⟨g0 + 1, true, m.objs.length⟩).getD i .none = m.slots[i] := by
      rw [List.getD_eq_getElem?_getD, List.getElem?_set_ne hik, List.getElem?_eq_getElem hi']; rfl
    dsimp only at hu ha
    rw [e] at hu ha
    have := (hsl _ (List.getElem_mem hi')).2.2 hu
    omega
  · have hi' : i < m.objs.length := by simp at hi; omega
    have e : ob ⟨m.types, m.objs ++ [newO m t], m.slots.set k ⟨g0 + 1, true, m.objs.length⟩⟩ i = m.objs[i] := by
      simp [ob, List.getD_eq_getElem?_getD, List.getElem?_append_left hi', List.getElem?_eq_getElem hi']
    rw [e] at hj hr
    have := ((hobs _ (List.getElem_mem hi')).2.2 j hj).2 hr.1
    have h2 := hr.2
    omega
theorem Alld.asked : asked (allM m t) k (g0 + 1) = 0 := by rw [L20.asked, if_pos h.ok, h.right]
theorem Alld.free : freeE (allM m t) k (g0 + 1) = 0 := by rw [freeE, if_pos h.asked, h.own, if_neg h.idle]
theorem Alld.freed : freeM (allM m t) k (g0 + 1) = ⟨m.types, m.objs, m.slots.set k ⟨g0 + 1, false, 0⟩⟩ := by
  obtain ⟨h8, h960, h16, hty, hobs, hsl⟩ := chk_ok h.hc
  have hn := h.hn
  rw [freeM, if_pos h.free, h.own, h.hM, Int.toNat_natCast]
  dsimp only
  congr 1
  · rw [List.map_append, List.eraseIdx_append_of_length_le (by simp)]
    simp only [List.length_map, Nat.sub_self, List.map_cons, List.map_nil, List.eraseIdx_cons_zero, List.append_nil]
    conv => rhs; rw [← List.map_id m.objs]
    refine List.map_congr_left fun o ho => ?_
    obtain ⟨a1, a2, a3⟩ := hobs o ho
    rw [lowO, id]
    obtain ⟨oty, ofs⟩ := o
    congr 1
    apply List.ext_getElem?
    intro i
    rcases Nat.lt_or_ge i ofs.length with hi | hi
    · have h3 := (a3 i hi).2
      rw [List.getElem?_map, List.getElem?_range hi, Option.map_some, List.getElem?_eq_getElem hi]
      congr 1
      have hg : ofs.getD i 0 = ofs[i] := by rw [List.getD_eq_getElem?_getD, List.getElem?_eq_getElem hi]; rfl
      rw [lowV, if_neg, hg]
      rintro ⟨c1, c2⟩
      have := h3 c1
      omega
    · rw [List.getElem?_eq_none (by simpa using hi), List.getElem?_eq_none hi]
  · rw [List.set_set]
    conv => rhs; rw [← List.map_id (m.slots.set k ⟨g0 + 1, false, 0⟩)]
    refine List.map_congr_left fun s hs => ?_
    rw [lowS, id]
    rcases List.mem_or_eq_of_mem_set hs with hs | hs
    · split
      · rename_i hu
        have := (hsl s hs).2.2 hu
        obtain ⟨sg, su, sa⟩ := s
        dsimp only at hu this ⊢
        subst hu
        rw [lowA, if_neg (by omega)]
      · rfl
    · subst hs; rfl
end
end Go.Proofs.Yteejianjjpdimaa.L20
namespace Go.Proofs.Yteejianjjpdimaa.L20
open L02 L13 L18
theorem ob_putF {m : Mo} {n i : Nat} {v : UInt64} (hn : n < m.objs.length) : ob (putF m n i v) n = ⟨(ob m n).ty, (ob m n).fs.set i v⟩ := by
  rw [ob, putF, List.getD_eq_getElem?_getD, List.getElem?_set_self hn]; rfl
theorem len_putF {m : Mo} {n i : Nat} {v : UInt64} : (putF m n i v).objs.length = m.objs.length := by simp [putF]
theorem putF_putF {m : Mo} {n i : Nat} {a b : UInt64} (hn : n < m.objs.length) : putF (putF m n i a) n i b = putF m n i b := by
  rw [putF, ob_putF hn, putF, putF]
  dsimp only
  rw [List.set_set, List.set_set]
theorem chk_putF {m : Mo} {n i : Nat} {v : UInt64} (hc : chk m = 0) (hn : n < m.objs.length) (hv : i < (ob m n).fs.length → FdOk m.objs.length ((ty m.types (ob m n)).getD i 0) v) : chk (putF m n i v) = 0 := by
  obtain ⟨h8, h960, h16, hty, hobs, hsl⟩ := chk_ok hc
  refine chk_zero (by rw [len_putF]; simp only [putF]; omega) ⟨h16, hty, fun o ho => ?_, fun s hs => ?_⟩
  · rw [len_putF]
    show ObOk m.types m.objs.length o
    rcases List.mem_or_eq_of_mem_set ho with ho | ho
    · exact hobs o ho
    · have hob : ob m n ∈ m.objs := by rw [ob, List.getD_eq_getElem?_getD, List.getElem?_eq_getElem hn]; exact List.getElem_mem hn
      obtain ⟨a1, a2, a3⟩ := hobs _ hob
      subst ho
      refine ⟨a1, by rw [List.length_set]; exact a2, fun j hj => ?_⟩
      have hj' : j < (ob m n).fs.length := by simpa using hj
      show FdOk m.objs.length ((ty m.types (ob m n)).getD j 0) (((ob m n).fs.set i v).getD j 0)
      by_cases hij : i = j
      · subst hij
        rw [show ((ob m n).fs.set i v).getD i 0 = v by rw [List.getD_eq_getElem?_getD, List.getElem?_set_self hj']; rfl]
        exact hv hj'
      · rw [show ((ob m n).fs.set i v).getD j 0 = (ob m n).fs.getD j 0 by rw [List.getD_eq_getElem?_getD, List.getElem?_set_ne hij, ← List.getD_eq_getElem?_getD]]
        exact a3 j hj'
  · rw [len_putF]; exact hsl s hs
theorem asked_putF {m : Mo} {n i : Nat} {v : UInt64} {sl g : Int} (hc : chk m = 0) (hp : chk (putF m n i v) = 0) : asked (putF m n i v) sl g = asked m sl g := by
  rw [asked, asked, if_pos hc, if_pos hp]; rfl
theorem own_putF {m : Mo} {n i : Nat} {v : UInt64} {sl : Int} : own (putF m n i v) sl = own m sl := rfl
theorem kinds_putF {m : Mo} {n i : Nat} {v : UInt64} {sl : Int} (hn : n < m.objs.length) (ho : own m sl = n) : kinds (putF m n i v) sl = kinds m sl := by
  rw [kinds, kinds, own_putF, ho, ob_putF hn]; rfl
end Go.Proofs.Yteejianjjpdimaa.L20
namespace Go.Proofs.Yteejianjjpdimaa.L20
open L02 L13 L18
def nmM : Mo := ⟨[[3], [2, 1]], exM.objs, exM.slots⟩
def nmX : Mo := ⟨[[3], [2, 1]], [⟨0, [2]⟩, ⟨0, [0]⟩, ⟨1, [0, 0]⟩], ⟨1, true, 0⟩ :: ⟨1, true, 1⟩ :: ⟨1, true, 2⟩ :: List.replicate 13 Sl.none⟩
def nmY : Mo := ⟨[[3], [2, 1]], [⟨0, [2]⟩, ⟨0, [0]⟩, ⟨1, [9221120237041090561, 0]⟩], ⟨1, true, 0⟩ :: ⟨1, true, 1⟩ :: ⟨1, true, 2⟩ :: List.replicate 13 Sl.none⟩
def nmZ : Mo := ⟨[[3], [2, 1]], [⟨0, [2]⟩, ⟨0, [0]⟩, ⟨1, [0, 0]⟩], ⟨1, true, 0⟩ :: ⟨1, true, 1⟩ :: ⟨1, true, 2⟩ :: ⟨1, true, 1⟩ :: List.replicate 12 Sl.none⟩
/-- the slots from 2 to n are used up -/
def nmS (n : Nat) : List Sl := ⟨1, true, 0⟩ :: ⟨1, true, 1⟩ :: (List.replicate (n - 2) ⟨2147483647, false, 0⟩ ++ List.replicate (16 - n) Sl.none)
def nmF : Mo := ⟨[[3], [2, 1]], exM.objs, nmS 16⟩
def nmO : Mo := ⟨[[3]], [⟨0, [0]⟩, ⟨0, [2]⟩], exM.slots⟩
/-- the models of the eleven cases -/
def nmC : Nat → Mo
  | 0 => ⟨List.replicate 9 [], exM.objs, exM.slots⟩
  | 1 => ⟨[[3], [2, 1]], List.replicate 961 ⟨0, []⟩, exM.slots⟩
  | 2 => ⟨[[3], [2, 1]], exM.objs, exM.slots.take 15⟩
  | 3 => ⟨[[3], [4, 1]], exM.objs, exM.slots⟩
  | 4 => ⟨[[3], [2, 1]], [⟨2, [2]⟩, ⟨0, [0]⟩], exM.slots⟩
  | 5 => ⟨[[3], [2, 1]], [⟨0, []⟩, ⟨0, [0]⟩], exM.slots⟩
  | 6 => ⟨[[3], [2, 1]], [⟨0, [3]⟩, ⟨0, [0]⟩], exM.slots⟩
  | 7 => ⟨[[3], [2, 1]], [⟨1, [9221120237041090560, 0]⟩, ⟨0, [0]⟩], exM.slots⟩
  | 8 => ⟨[[3], [2, 1]], exM.objs, exM.slots.set 5 ⟨0, false, 1⟩⟩
  | 9 => ⟨[[3], [2, 1]], exM.objs, exM.slots.set 0 ⟨1, true, 2⟩⟩
  | _ => ⟨[[3], [2, 1]], exM.objs, exM.slots.set 0 ⟨0, true, 0⟩⟩
theorem nmM_chk : chk nmM = 0 := by decide +kernel
theorem nmC0 : chk (nmC 0) = 4 := by decide +kernel
theorem nmC1 : chk (nmC 1) = 4 := chk_many (.inr (by show 960 < (List.replicate 961 _).length; rw [List.length_replicate]; omega))
theorem nmC2 : chk (nmC 2) = 8 := by decide +kernel
theorem nmC3 : chk (nmC 3) = 8 := by decide +kernel
theorem nmC4 : chk (nmC 4) = 8 := by decide +kernel
theorem nmC5 : chk (nmC 5) = 8 := by decide +kernel
theorem nmC6 : chk (nmC 6) = 8 := by decide +kernel
theorem nmC7 : chk (nmC 7) = 8 := by decide +kernel
theorem nmC8 : chk (nmC 8) = 8 := by decide +kernel
theorem nmC9 : chk (nmC 9) = 8 := by decide +kernel
theorem nmC10 : chk (nmC 10) = 8 := by decide +kernel
theorem nm_a2 : allE nmM 2 = 2 := by decide +kernel
theorem nm_am : allE nmM (-1) = 2 := by decide +kernel
theorem nm_x : allM nmM 1 = nmX := by decide +kernel
theorem nm_xe : allE nmM 1 = 0 := by decide +kernel
theorem nm_xs : allS nmM 1 = 2 := by decide +kernel
theorem nm_xg : allG nmM 1 = 1 := by decide +kernel
theorem nm_d : getE nmX 2 1 2 = 2 := by decide +kernel
theorem nm_e : getE nmX 0 1 0 = 42 := by decide +kernel
theorem nm_y : setM nmX 2 1 0 18444492273895866368 = nmY := by decide +kernel
theorem nm_f : getE nmX 2 1 0 = 0 := by decide +kernel
theorem nm_v : getV nmY 2 1 0 = 9221120237041090561 := by decide +kernel
theorem nm_g : getE nmY 2 1 0 = 0 := by decide +kernel
theorem nm_i : getE nmX 1 1 0 = 42 := by decide +kernel
theorem nm_j : refE nmX 2 1 0 none = 42 := by decide +kernel
theorem nm_k : refE nmX 1 1 0 (some (0, 2)) = 28 := by decide +kernel
theorem nm_l : refE nmX 1 1 1 (some (0, 2)) = 2 := by decide +kernel
theorem nm_n : rootE nmX 1 1 0 = 6 := by decide +kernel
theorem nm_o : rootE nmX 2 1 0 = 42 := by decide +kernel
theorem nm_p : rootE nmX 0 1 0 = 0 := by decide +kernel
theorem nm_z : rootM nmX 0 1 0 = nmZ := by decide +kernel
theorem nm_zs : rootS nmX 0 1 0 = 3 := by decide +kernel
theorem nm_zg : rootG nmX 0 1 0 = 1 := by decide +kernel
theorem nm_q : allE nmF 0 = 23 := by decide +kernel
theorem nm_s : rootE nmF 0 1 0 = 23 := by decide +kernel
theorem nm_t : asked nmX 16 1 = 2 := by decide +kernel
theorem nm_u : freeE nmX 0 2 = 28 := by decide +kernel
theorem nm_w : freeE nmO 1 1 = 0 := by decide +kernel
theorem nm_wl : (freeM nmO 1 1).objs.length = 1 := by decide +kernel
theorem nm_s2 : exM.slots = nmS 2 := by decide +kernel
theorem nm_step : ∀ n, n < 16 → 2 ≤ n → (nmS n).set n ⟨2147483647, false, 0⟩ = nmS (n + 1) := by decide +kernel
end Go.Proofs.Yteejianjjpdimaa.L20
namespace Go.Proofs.Yteejianjjpdimaa
open Go.RowKit L02 L13 L18 L20
set_option maxHeartbeats 1000000 in
theorem float_any (x : UInt64) (b : Bool) (hb : b = decide (FloatOk x)) (w : World) : Calls Try.prog 38 #[.int .u64 x.toNat] w fun e w' => e = .returned (.bool b) ∧ Below w.heap.size w w' := by
  have B : Below w.heap.size w w := Below.refl _ _
  have hxl := toNat_lt x
  have e1 := and_int (a := (x.toNat : Int) / 4503599627370496) 11 (by omega) (by omega) 2047 (by decide) (by omega)
  rw [show ((2 ^ 11 : Nat) : Int) = 2048 from rfl] at e1
  have hwr : IntKind.u64.wrap ((x.toNat : Int) * 4096) = (x.toNat : Int) * 4096 % 18446744073709551616 := rfl
  have HB := Lib.hid hb; clear hb
  go_enter Try.func38, Try.ntmps38
  go_wp2
  all_goals
    go_ret
    refine ⟨ret_bool ?_, B⟩
    rw [HB.out]
    first
      | (rw [eq_comm, decide_eq_true_iff]; unfold FloatOk; omega)
      | (rw [Bool.eq_iff_iff, decide_eq_true_iff]; simp only [Bool.or_eq_true, beq_iff_eq]; unfold FloatOk; omega)
set_option maxHeartbeats 1000000 in
theorem slot_any (tv ov sv : Value) (m : Mo) (s : Sl) (b : Bool) (hb : b = decide (SlOk m.objs.length s)) (w : World) (h : Mod w tv ov sv m) :
    Calls Try.prog 37 #[.agg #[tv, ov, sv], .agg #[.int .i64 s.gen, .bool s.used, .int .i64 s.at_]] w fun e w' => e = .returned (.bool b) ∧ Below w.heap.size w w' := by
  have B : Below w.heap.size w w := Below.refl _ _
  have lo := h.o.len
  have HB := Lib.hid hb; clear hb
  obtain ⟨N, hN⟩ : ∃ N, N = m.objs.length := ⟨_, rfl⟩
  rw [← hN] at lo HB
  clear h hN
  obtain ⟨g, u, a⟩ := s
  dsimp only at *
  cases u
  all_goals
    go_enter Try.func37, Try.ntmps37
    go_wp2
    all_goals
      go_ret
      refine ⟨ret_bool ?_, ?_⟩
      · rw [HB.out]
        exact bool_dec (by simp [SlOk]; try omega)
      · skip
        (repeat (first | refine Below.setCell ?_ (by first | exact Nat.le_refl _ | (simp <;> omega)) _ | refine Below.alloc ?_ (by first | exact B.size | (have := B.size; simp <;> omega)) _)); exact B
end Go.Proofs.Yteejianjjpdimaa
namespace Go.Proofs.Yteejianjjpdimaa
open Go.RowKit L02 L13 L18 L20
/-- what is asked of a field, as the code asks it -/
theorem fd_split (n : Nat) (k : UInt8) (v : UInt64) : (¬ FdOk n k v ∧ k.toNat = 2 ∧ ¬ FloatOk v) ∨ (¬ FdOk n k v ∧ k.toNat = 3 ∧ n < v.toNat) ∨ (FdOk n k v ∧ k.toNat = 2 ∧ FloatOk v) ∨ (FdOk n k v ∧ k.toNat = 3 ∧ v.toNat ≤ n) ∨ (FdOk n k v ∧ k.toNat ≠ 2 ∧ k.toNat ≠ 3) := by
  unfold FdOk
  by_cases h2 : k.toNat = 2
  · by_cases hf : FloatOk v
    · exact .inr (.inr (.inl ⟨⟨fun _ => hf, fun h => by omega⟩, h2, hf⟩))
    · exact .inl ⟨fun h => hf (h.1 h2), h2, hf⟩
  · by_cases h3 : k.toNat = 3
    · by_cases hv : v.toNat ≤ n
      · exact .inr (.inr (.inr (.inl ⟨⟨fun h => by omega, fun _ => hv⟩, h3, hv⟩)))
      · exact .inr (.inl ⟨fun h => hv (h.2 h3), h3, by omega⟩)
    · exact .inr (.inr (.inr (.inr ⟨⟨fun h => by omega, fun h => by omega⟩, h2, h3⟩)))
set_option maxRecDepth 100000 in
set_option maxHeartbeats 4000000 in
theorem object_any (tv ov sv x : Value) (m : Mo) (o : Ob) (b : Bool) (hb : b = decide (ObOk m.types m.objs.length o)) (w : World) (h : Mod w tv ov sv m) (hx : Words w x o.fs) :
    Calls Try.prog 36 #[.agg #[tv, ov, sv], .agg #[.int .i64 o.ty, x]] w fun e w' => e = .returned (.bool b) ∧ Below w.heap.size w w' := by
  have B : Below w.heap.size w w := Below.refl _ _
  have lt := h.t.len; have lo := h.o.len; have lx := Rd.len hx Try.underlying43
  have lo' := h.o.len_le; have lx' := Rd.len_le hx
  obtain ⟨NT, hNT⟩ : ∃ N, N = m.types.length := ⟨_, rfl⟩
  obtain ⟨NO, hNO⟩ : ∃ N, N = m.objs.length := ⟨_, rfl⟩
  obtain ⟨n, hn⟩ : ∃ N, N = o.fs.length := ⟨_, rfl⟩
  rw [← hNT] at lt; rw [← hNO] at lo lo' hb; rw [← hn] at lx lx'
  have H := Lib.hid h; have HX := Lib.hid hx; have HNT := Lib.hid hNT; have HN := Lib.hid hn
  clear h hx hNO
  by_cases hty : 0 ≤ o.ty ∧ o.ty < NT
  · obtain ⟨k, hk⟩ := Int.eq_ofNat_of_zero_le hty.1
    rw [hk] at hty ⊢
    have hkt : k < m.types.length := by omega
    obtain ⟨ad, y, t, iy, m0, ht, hby⟩ := H.out.t.at_ hkt
    have ht' : ty m.types o = t := by rw [ty, hk]; simp [List.getD_eq_getElem?_getD, ht.out]
    have ly := Rd.len hby.out Try.underlying41
    obtain ⟨nt, hnt⟩ : ∃ N, N = t.length := ⟨_, rfl⟩
    rw [← hnt] at ly
    have HNt := Lib.hid hnt
    have ha : decide ((k : Int) < 0) = false := by rw [decide_eq_false_iff_not]; omega
    have hb1 : decide ((NT : Int) ≤ (k : Int)) = false := by rw [decide_eq_false_iff_not]; omega
    have hb2 : decide (NT ≤ k) = false := by rw [decide_eq_false_iff_not]; omega
    by_cases hl : n = nt
    · have hc : ((n : Int) != (nt : Int)) = false := by rw [bne_eq_false_iff_eq]; omega
      have hok : b = decide (∀ i, i < n → FdOk NO (t.getD i 0) (o.fs.getD i 0)) := by
        rw [hb]
        congr 1
        rw [eq_iff_iff, ObOk, ht']
        refine ⟨fun hh i hi => hh.2.2 i (by omega), fun hh => ⟨by omega, by omega, fun i hi => hh i (by omega)⟩⟩
      have HOK := Lib.hid hok; have HL := Lib.hid hl
      clear hb hok ht' hkt hNT hn hnt hl
      go_enter Try.func36, Try.ntmps36
      go_upto_region 1 with (fail)
      refine wp_gen (fun Wv => Bx Wv (w.heap.size) (26) (#[tv, ov, sv]) ∧ Bx Wv (w.heap.size + 1) (45) (#[.int .i64 (k : Int), x]) ∧ Below w.heap.size w Wv) ⟨(((Bx.at_ (by simp)).alloc _)), ((Bx.at_ (by simp))), (((Below.refl _ w).alloc (by simp <;> omega) _).alloc (by simp <;> omega) _)⟩ ?_
      rintro wa1 ⟨g1, g2, b⟩
      replace m0 := cell_later b m0; replace B := B.trans (b.mono B.size); clear b
      have c_g1 := g1.cell; have f_g1 := g1.free; have a_g1 := fun o => (g1.alloc o).cell; have d_g1 := fun o o2 => ((g1.alloc o).alloc o2).cell; have e_g1 := fun o => (g1.alloc o).free
      have c_g2 := g2.cell; have f_g2 := g2.free; have a_g2 := fun o => (g2.alloc o).cell; have d_g2 := fun o o2 => ((g2.alloc o).alloc o2).cell; have e_g2 := fun o => (g2.alloc o).free
      refine wp_region_calm (by kernel_rfl) (by kernel_rfl) ?_
      try clear c_g1 f_g1 a_g1 d_g1 e_g1
      have c_g1 := fun x : Fut _ => (g1.below x.h).cell
      try clear c_g2 f_g2 a_g2 d_g2 e_g2
      have c_g2 := fun x : Fut _ => (g2.below x.h).cell
      have c_m0 := fun x : Fut _ => cell_later x.h m0
      repeat (go_big_quiet_step (fail))
      refine wpQuiet_nil ?_
      intro _ hw'
      obtain ⟨xq, hw''⟩ := hw'
      subst hw''
      clear c_m0; replace m0 := cell_later xq.h m0
      clear c_g1; replace g1 := g1.below xq.h; have c_g1 := g1.cell; have f_g1 := g1.free; have a_g1 := fun o => (g1.alloc o).cell; have d_g1 := fun o o2 => ((g1.alloc o).alloc o2).cell; have e_g1 := fun o => (g1.alloc o).free
      clear c_g2; replace g2 := g2.below xq.h; have c_g2 := g2.cell; have f_g2 := g2.free; have a_g2 := fun o => (g2.alloc o).cell; have d_g2 := fun o o2 => ((g2.alloc o).alloc o2).cell; have e_g2 := fun o => (g2.alloc o).free
      replace B := B.trans (xq.h.mono B.size)
      go_wp2
      have HB := Lib.hid B; have HG1 := Lib.hid g1; have HG2 := Lib.hid g2
      clear B g1 g2 m0 c_g1 c_g2 f_g1 f_g2 a_g1 a_g2 d_g1 d_g2 e_g1 e_g2
      go_loopg [39] n (fun g i wr => ∃ j : Nat, j ≤ n ∧ g = n - j ∧ i = .int .i64 j ∧ Hid ((∀ i, i < j → FdOk NO (t.getD i 0) (o.fs.getD i 0)) ∧ Bx wr w.heap.size 26 #[tv, ov, sv] ∧ Bx wr (w.heap.size + 1) 45 #[.int .i64 (k : Int), x] ∧ Below w.heap.size w wr))
      case atStart => exact ⟨0, by omega, by omega, rfl, Lib.hid ⟨fun i hi => by omega, HG1.out, HG2.out, HB.out⟩⟩
      case round =>
        obtain ⟨j, hj, rfl, rfl, hh⟩ := hrel
        by_cases hlt : j < n
        · have g1 := hh.out.2.1; have g2 := hh.out.2.2.1
          have c_g1 := g1.cell; have c_g2 := g2.cell
          obtain ⟨bd, kk, ib, m1, hkk⟩ := (hby.out.below hh.out.2.2.2).at_ (P := Try.prog) Try.underlying41 one_u8 (k := j) (by have := HNt.out; have := HL.out; omega)
          obtain ⟨cd, v, ic, m2, hv⟩ := (HX.out.below hh.out.2.2.2).at_ (P := Try.prog) Try.underlying43 one_u64 (k := j) (by have := HN.out; omega)
          have ek : t.getD j 0 = kk := by simp [List.getD_eq_getElem?_getD, hkk.out]
          have ev : o.fs.getD j 0 = v := by simp [List.getD_eq_getElem?_getD, hv.out]
          have EK := Lib.hid ek; have EV := Lib.hid ev
          have hjt : j < nt := by have := HL.out; omega
          clear hkk hv ek ev
          have hwn : IntKind.u64.wrap ((NO : Nat) : Int) = (NO : Int) := by show (NO : Int) % 18446744073709551616 = _; omega
          have FT := Lib.hid (fun b hb w => float_any v b hb w)
          have hcase := fd_split NO kk v
          have hno : ∀ z, FdOk NO kk v = z → (z → False) → b = false := fun z hz hf => by
            rw [HOK.out, decide_eq_false_iff_not]
            intro hall
            have := hall j hlt
            rw [EK.out, EV.out, hz] at this
            exact hf this
          have HNO := Lib.hid hno; clear hno
          rcases hcase with ⟨z, e2, zf⟩ | ⟨z, e3, zf⟩ | ⟨z, e2, zf⟩ | ⟨z, e3, zf⟩ | ⟨z, e2, e3⟩
          · have hbf : b = false := HNO.out _ rfl z
            have k2 : ((kk.toNat : Int) == 2) = true := by rw [beq_iff_eq]; omega
            have FT1 := Lib.hid (FT.out false (decide_eq_false zf).symm)
            clear z e2 zf FT
            subst hbf
            go_wp2_with fail
            refine (FT1.out _).mono ?_
            rintro e w2 ⟨rfl, b2⟩
            have B := hh.out.2.2.2.trans (b2.mono hh.out.2.2.2.size)
            go_wp2
            go_ret
            exact ⟨rfl, B⟩
          · have hbf : b = false := HNO.out _ rfl z
            have k2 : ((kk.toNat : Int) == 2) = false := by rw [beq_eq_false_iff_ne]; omega
            have k3 : ((kk.toNat : Int) == 3) = true := by rw [beq_iff_eq]; omega
            clear z e3 FT
            subst hbf
            go_wp2
            go_ret
            exact ⟨rfl, hh.out.2.2.2⟩
          · have k2 : ((kk.toNat : Int) == 2) = true := by rw [beq_iff_eq]; omega
            have k3 : ((kk.toNat : Int) == 3) = false := by rw [beq_eq_false_iff_ne]; omega
            have FT1 := Lib.hid (FT.out true (decide_eq_true zf).symm)
            have HZ := Lib.hid z
            clear z e2 zf FT
            go_wp2_with fail
            refine (FT1.out _).mono ?_
            rintro e w2 ⟨rfl, b2⟩
            have HH := Lib.hid (And.intro (hh.out.2.1.below b2) (And.intro (hh.out.2.2.1.below b2) (hh.out.2.2.2.trans (b2.mono hh.out.2.2.2.size))))
            clear b2 m1 m2 g1 g2 c_g1 c_g2
            go_wp2
            go_roundg (n - (j + 1))
            case measure => omega
            case rel =>
              refine ⟨j + 1, by omega, rfl, by go_num, Lib.hid ⟨fun i hi => ?_, HH.out⟩⟩
              by_cases hij : i < j
              · exact hh.out.1 i hij
              · obtain rfl : i = j := by omega
                rw [EK.out, EV.out]; exact HZ.out
          · have k2 : ((kk.toNat : Int) == 2) = false := by rw [beq_eq_false_iff_ne]; omega
            have k3 : ((kk.toNat : Int) == 3) = true := by rw [beq_iff_eq]; omega
            have HZ := Lib.hid z
            have zf2 : ¬ NO < v.toNat := by omega
            clear z e3 FT zf
            go_wp2
            go_roundg (n - (j + 1))
            case measure => omega
            case rel =>
              refine ⟨j + 1, by omega, rfl, by go_num, Lib.hid ⟨fun i hi => ?_, hh.out.2⟩⟩
              by_cases hij : i < j
              · exact hh.out.1 i hij
              · obtain rfl : i = j := by omega
                rw [EK.out, EV.out]; exact HZ.out
          · have k2 : ((kk.toNat : Int) == 2) = false := by rw [beq_eq_false_iff_ne]; omega
            have k3 : ((kk.toNat : Int) == 3) = false := by rw [beq_eq_false_iff_ne]; omega
            have HZ := Lib.hid z
            clear z e2 e3 FT
            go_wp2
            go_roundg (n - (j + 1))
            case measure => omega
            case rel =>
              refine ⟨j + 1, by omega, rfl, by go_num, Lib.hid ⟨fun i hi => ?_, hh.out.2⟩⟩
              by_cases hij : i < j
              · exact hh.out.1 i hij
              · obtain rfl : i = j := by omega
                rw [EK.out, EV.out]; exact HZ.out
        · obtain rfl : j = n := by omega
          have hbt : b = true := by rw [HOK.out, decide_eq_true_iff]; exact fun i hi => hh.out.1 i hi
          have hntn : ¬ j < nt := by have := HL.out; omega
          subst hbt
          go_wp2
          go_ret
          exact ⟨rfl, hh.out.2.2.2⟩
    · have hc : ((n : Int) != (nt : Int)) = true := by rw [bne_iff_ne]; omega
      have hbf : b = false := by
        rw [hb, decide_eq_false_iff_not, ObOk, ht']
        intro hh; omega
      subst hbf
      clear hb ht' hkt hNT hn hnt hl
      go_enter Try.func36, Try.ntmps36
      go_upto_region 1 with (fail)
      refine wp_gen (fun Wv => Bx Wv (w.heap.size) (26) (#[tv, ov, sv]) ∧ Bx Wv (w.heap.size + 1) (45) (#[.int .i64 (k : Int), x]) ∧ Below w.heap.size w Wv) ⟨(((Bx.at_ (by simp)).alloc _)), ((Bx.at_ (by simp))), (((Below.refl _ w).alloc (by simp <;> omega) _).alloc (by simp <;> omega) _)⟩ ?_
      rintro wa1 ⟨g1, g2, b⟩
      replace m0 := cell_later b m0; replace B := B.trans (b.mono B.size); clear b
      have c_g1 := g1.cell; have f_g1 := g1.free; have a_g1 := fun o => (g1.alloc o).cell; have d_g1 := fun o o2 => ((g1.alloc o).alloc o2).cell; have e_g1 := fun o => (g1.alloc o).free
      have c_g2 := g2.cell; have f_g2 := g2.free; have a_g2 := fun o => (g2.alloc o).cell; have d_g2 := fun o o2 => ((g2.alloc o).alloc o2).cell; have e_g2 := fun o => (g2.alloc o).free
      refine wp_region_calm (by kernel_rfl) (by kernel_rfl) ?_
      try clear c_g1 f_g1 a_g1 d_g1 e_g1
      have c_g1 := fun x : Fut _ => (g1.below x.h).cell
      try clear c_g2 f_g2 a_g2 d_g2 e_g2
      have c_g2 := fun x : Fut _ => (g2.below x.h).cell
      have c_m0 := fun x : Fut _ => cell_later x.h m0
      repeat (go_big_quiet_step (fail))
      refine wpQuiet_nil ?_
      intro _ hw'
      obtain ⟨xq, hw''⟩ := hw'
      subst hw''
      clear c_m0; replace m0 := cell_later xq.h m0
      clear c_g1; replace g1 := g1.below xq.h; have c_g1 := g1.cell; have f_g1 := g1.free; have a_g1 := fun o => (g1.alloc o).cell; have d_g1 := fun o o2 => ((g1.alloc o).alloc o2).cell; have e_g1 := fun o => (g1.alloc o).free
      clear c_g2; replace g2 := g2.below xq.h; have c_g2 := g2.cell; have f_g2 := g2.free; have a_g2 := fun o => (g2.alloc o).cell; have d_g2 := fun o o2 => ((g2.alloc o).alloc o2).cell; have e_g2 := fun o => (g2.alloc o).free
      replace B := B.trans (xq.h.mono B.size)
      go_wp2
      go_ret
      exact ⟨rfl, B⟩
  · have hbf : b = false := by
      rw [hb, decide_eq_false_iff_not, ObOk]
      intro hh; omega
    subst hbf
    obtain ⟨ty, fs⟩ := o
    dsimp only at *
    by_cases hneg : ty < 0
    · have ha : decide (ty < 0) = true := decide_eq_true hneg
      clear hb hNT hn hty hneg
      go_enter Try.func36, Try.ntmps36
      go_upto_region 1 with (fail)
      refine wp_gen (fun Wv => Bx Wv (w.heap.size) (26) (#[tv, ov, sv]) ∧ Bx Wv (w.heap.size + 1) (45) (#[.int .i64 ty, x]) ∧ Below w.heap.size w Wv) ⟨(((Bx.at_ (by simp)).alloc _)), ((Bx.at_ (by simp))), (((Below.refl _ w).alloc (by simp <;> omega) _).alloc (by simp <;> omega) _)⟩ ?_
      rintro wa1 ⟨g1, g2, b⟩
      replace B := B.trans (b.mono B.size); clear b
      have c_g1 := g1.cell; have f_g1 := g1.free; have a_g1 := fun o => (g1.alloc o).cell; have d_g1 := fun o o2 => ((g1.alloc o).alloc o2).cell; have e_g1 := fun o => (g1.alloc o).free
      have c_g2 := g2.cell; have f_g2 := g2.free; have a_g2 := fun o => (g2.alloc o).cell; have d_g2 := fun o o2 => ((g2.alloc o).alloc o2).cell; have e_g2 := fun o => (g2.alloc o).free
      refine wp_region_calm (by kernel_rfl) (by kernel_rfl) ?_
      try clear c_g1 f_g1 a_g1 d_g1 e_g1
      have c_g1 := fun x : Fut _ => (g1.below x.h).cell
      try clear c_g2 f_g2 a_g2 d_g2 e_g2
      have c_g2 := fun x : Fut _ => (g2.below x.h).cell
      repeat (go_big_quiet_step (fail))
      refine wpQuiet_nil ?_
      intro _ hw'
      obtain ⟨xq, hw''⟩ := hw'
      subst hw''
      clear c_g1; replace g1 := g1.below xq.h; have c_g1 := g1.cell; have f_g1 := g1.free; have a_g1 := fun o => (g1.alloc o).cell; have d_g1 := fun o o2 => ((g1.alloc o).alloc o2).cell; have e_g1 := fun o => (g1.alloc o).free
      clear c_g2; replace g2 := g2.below xq.h; have c_g2 := g2.cell; have f_g2 := g2.free; have a_g2 := fun o => (g2.alloc o).cell; have d_g2 := fun o o2 => ((g2.alloc o).alloc o2).cell; have e_g2 := fun o => (g2.alloc o).free
      replace B := B.trans (xq.h.mono B.size)
      go_wp2
      go_ret
      exact ⟨rfl, B⟩
    · have ha : decide (ty < 0) = false := decide_eq_false hneg
      have hb1 : decide ((NT : Int) ≤ ty) = true := by rw [decide_eq_true_iff]; omega
      clear hb hNT hn hty hneg
      go_enter Try.func36, Try.ntmps36
      go_upto_region 1 with (fail)
      refine wp_gen (fun Wv => Bx Wv (w.heap.size) (26) (#[tv, ov, sv]) ∧ Bx Wv (w.heap.size + 1) (45) (#[.int .i64 ty, x]) ∧ Below w.heap.size w Wv) ⟨(((Bx.at_ (by simp)).alloc _)), ((Bx.at_ (by simp))), (((Below.refl _ w).alloc (by simp <;> omega) _).alloc (by simp <;> omega) _)⟩ ?_
      rintro wa1 ⟨g1, g2, b⟩
      replace B := B.trans (b.mono B.size); clear b
      have c_g1 := g1.cell; have f_g1 := g1.free; have a_g1 := fun o => (g1.alloc o).cell; have d_g1 := fun o o2 => ((g1.alloc o).alloc o2).cell; have e_g1 := fun o => (g1.alloc o).free
      have c_g2 := g2.cell; have f_g2 := g2.free; have a_g2 := fun o => (g2.alloc o).cell; have d_g2 := fun o o2 => ((g2.alloc o).alloc o2).cell; have e_g2 := fun o => (g2.alloc o).free
      refine wp_region_calm (by kernel_rfl) (by kernel_rfl) ?_
      try clear c_g1 f_g1 a_g1 d_g1 e_g1
      have c_g1 := fun x : Fut _ => (g1.below x.h).cell
      try clear c_g2 f_g2 a_g2 d_g2 e_g2
      have c_g2 := fun x : Fut _ => (g2.below x.h).cell
      repeat (go_big_quiet_step (fail))
      refine wpQuiet_nil ?_
      intro _ hw'
      obtain ⟨xq, hw''⟩ := hw'
      subst hw''
      clear c_g1; replace g1 := g1.below xq.h; have c_g1 := g1.cell; have f_g1 := g1.free; have a_g1 := fun o => (g1.alloc o).cell; have d_g1 := fun o o2 => ((g1.alloc o).alloc o2).cell; have e_g1 := fun o => (g1.alloc o).free
      clear c_g2; replace g2 := g2.below xq.h; have c_g2 := g2.cell; have f_g2 := g2.free; have a_g2 := fun o => (g2.alloc o).cell; have d_g2 := fun o o2 => ((g2.alloc o).alloc o2).cell; have e_g2 := fun o => (g2.alloc o).free
      replace B := B.trans (xq.h.mono B.size)
      go_wp2
      go_ret
      exact ⟨rfl, B⟩
end Go.Proofs.Yteejianjjpdimaa
