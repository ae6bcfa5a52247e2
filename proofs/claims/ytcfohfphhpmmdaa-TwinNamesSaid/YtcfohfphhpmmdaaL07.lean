/- Two copies of a superblock in an image: plain functions and facts. Nothing of the program. -/
import Derived.Test.YtcfohfphhpmmdaaL06
set_option linter.unusedVariables false
set_option linter.unusedSimpArgs false
namespace Go.Proofs.Ytcfohfphhpmmdaa.L07
open L02 L05 L06

def c0 (m : List UInt64) : List UInt64 := m.take 8
def c1 (m : List UInt64) : List UInt64 := (m.drop 8).take 8
def CopyOk (n : Nat) (l : List UInt64) : Prop := ReadOk l ∧ at2 l = (n : Int)
instance (n : Nat) (l : List UInt64) : Decidable (CopyOk n l) := inferInstanceAs (Decidable (ReadOk l ∧ at2 l = (n : Int)))
def is0 (m : List UInt64) : Bool := decide (SizeOk m.length ∧ CopyOk m.length (c0 m))
def is1 (m : List UInt64) : Bool := decide (SizeOk m.length ∧ CopyOk m.length (c1 m))
def rErr (m : List UInt64) : Int := if SizeOk m.length then (if is0 m = true ∨ is1 m = true then 0 else 50) else 8
/-- the copy that counts -/
def one (m : List UInt64) : List UInt64 := if is0 m = true then c0 m else c1 m
def sW (m : List UInt64) : Int := if rErr m = 0 then (m.length : Int) else 0
def sT (m : List UInt64) : Int := if rErr m = 0 then at3 (one m) else 0
def view (m : List UInt64) : List UInt64 := if rErr m = 0 then one m ++ (one m ++ m.drop 16) else []
def heals (m : List UInt64) : List (Int × UInt64) := if rErr m = 0 then (diffs m (view m)).map fun i => (i, (view m).getD i.toNat 0) else []

theorem c0_len {m : List UInt64} (h : SizeOk m.length) : (c0 m).length = 8 := by have := h.1; simp [c0]; omega
theorem c1_len {m : List UInt64} (h : SizeOk m.length) : (c1 m).length = 8 := by have := h.1; simp [c1]; omega
theorem split16 {m : List UInt64} : m = c0 m ++ (c1 m ++ m.drop 16) := by
  rw [c0, c1, show m.drop 16 = (m.drop 8).drop 8 by rw [List.drop_drop], List.take_append_drop, List.take_append_drop]
theorem rErr_ok {m : List UInt64} (h : rErr m = 0) : SizeOk m.length ∧ (is0 m = true ∨ is1 m = true) := by
  unfold rErr at h
  split at h
  · split at h
    · exact ⟨‹_›, ‹_›⟩
    · omega
  · omega
theorem rErr_mk {m : List UInt64} (h : SizeOk m.length) (h1 : is0 m = true ∨ is1 m = true) : rErr m = 0 := by rw [rErr, if_pos h, if_pos h1]
theorem rErr_no {m : List UInt64} (h : ¬ SizeOk m.length) : rErr m = 8 := if_neg h
theorem rErr_50 {m : List UInt64} (h : SizeOk m.length) (h0 : is0 m = false) (h1 : is1 m = false) : rErr m = 50 := by rw [rErr, if_pos h, if_neg (by simp [h0, h1])]
theorem is0_no {m : List UInt64} (h : ¬ SizeOk m.length) : is0 m = false := decide_eq_false (fun x => h x.1)
theorem is1_no {m : List UInt64} (h : ¬ SizeOk m.length) : is1 m = false := decide_eq_false (fun x => h x.1)
theorem is0_good {m : List UInt64} (h : SizeOk m.length) : is0 m = decide (CopyOk m.length (c0 m)) := by simp [is0, h]
theorem is1_good {m : List UInt64} (h : SizeOk m.length) : is1 m = decide (CopyOk m.length (c1 m)) := by simp [is1, h]
theorem one_good {m : List UInt64} (h : rErr m = 0) : CopyOk m.length (one m) := by
  obtain ⟨_, h1⟩ := rErr_ok h
  unfold one
  split
  · rename_i h0; exact (of_decide_eq_true h0).2
  · rename_i h0
    exact (of_decide_eq_true (h1.resolve_left h0)).2
theorem one_len {m : List UInt64} (h : rErr m = 0) : (one m).length = 8 := readOk_len (one_good h).1
/-- the copy that counts is what Write writes -/
theorem one_words {m : List UInt64} (h : rErr m = 0) : one m = wordsOf (sW m) (sT m) ∧ SupOk (sW m) (sT m) := by
  have hg := one_good h
  have e1 : sW m = at2 (one m) := by rw [sW, if_pos h, hg.2]
  have e2 : sT m = at3 (one m) := if_pos h
  rw [e1, e2]
  exact ⟨hg.1.2, hg.1.1⟩
theorem view_ok {m : List UInt64} (h : rErr m = 0) : view m = one m ++ (one m ++ m.drop 16) := if_pos h
theorem view_len {m : List UInt64} (h : rErr m = 0) : (view m).length = m.length := by
  have := (rErr_ok h).1.1
  rw [view_ok h]; simp [one_len h]; omega

section
variable {m a b : List UInt64}
/-- an image of two copies -/
theorem c0_app {r : List UInt64} (ha : a.length = 8) : c0 (a ++ r) = a := by rw [c0, List.take_append_of_le_length (by omega), List.take_of_length_le (by omega)]
theorem c1_app {r : List UInt64} (ha : a.length = 8) (hb : b.length = 8) : c1 (a ++ (b ++ r)) = b := by
  rw [c1, List.drop_append_of_le_length (by omega), List.drop_of_length_le (by omega), List.nil_append, List.take_append_of_le_length (by omega), List.take_of_length_le (by omega)]
theorem d16_app {r : List UInt64} (ha : a.length = 8) (hb : b.length = 8) : (a ++ (b ++ r)).drop 16 = r := by
  rw [← List.append_assoc, List.drop_append_of_le_length (by simp; omega), List.drop_of_length_le (by simp; omega), List.nil_append]
theorem good_words {W T : Int} (h : SupOk W T) {n : Nat} (hn : (n : Int) = W) : CopyOk n (wordsOf W T) := ⟨readOk_words h, by rw [at2_words h, hn]⟩

/-- what stands in an image that holds copies a, b -/
theorem two_spec {r : List UInt64} (hm : m = a ++ (b ++ r)) (ha : a.length = 8) (hb : b.length = 8) (hs : SizeOk m.length) :
    is0 m = decide (CopyOk m.length a) ∧ is1 m = decide (CopyOk m.length b) ∧ (CopyOk m.length a → rErr m = 0 ∧ one m = a ∧ view m = a ++ (a ++ r)) ∧ (¬ CopyOk m.length a → CopyOk m.length b → rErr m = 0 ∧ one m = b ∧ view m = b ++ (b ++ r)) := by
  have e0 : c0 m = a := by rw [hm]; exact c0_app ha
  have e1 : c1 m = b := by rw [hm]; exact c1_app ha hb
  have e2 : m.drop 16 = r := by rw [hm]; exact d16_app ha hb
  have i0 : is0 m = decide (CopyOk m.length a) := by rw [is0_good hs, e0]
  have i1 : is1 m = decide (CopyOk m.length b) := by rw [is1_good hs, e1]
  refine ⟨i0, i1, fun h => ?_, fun h h' => ?_⟩
  · have h0 : is0 m = true := by rw [i0]; exact decide_eq_true h
    have hr := rErr_mk hs (.inl h0)
    have ho : one m = a := by rw [one, if_pos h0, e0]
    exact ⟨hr, ho, by rw [view_ok hr, ho, e2]⟩
  · have h0 : is0 m = false := by rw [i0]; exact decide_eq_false h
    have h1 : is1 m = true := by rw [i1]; exact decide_eq_true h'
    have hr := rErr_mk hs (.inr h1)
    have ho : one m = b := by rw [one, if_neg (by simp [h0]), e1]
    exact ⟨hr, ho, by rw [view_ok hr, ho, e2]⟩
end

/-- differences -/
theorem diffsTo_mem {a b : List UInt64} {k : Nat} {x : Int} (h : x ∈ diffsTo a b k) : ∃ i : Nat, x = (i : Int) ∧ i < k ∧ a[i]? ≠ b[i]? := by
  unfold diffsTo at h
  obtain ⟨i, hi, rfl⟩ := List.mem_map.1 h
  obtain ⟨h1, h2⟩ := List.mem_filter.1 hi
  exact ⟨i, rfl, List.mem_range.1 h1, of_decide_eq_true h2⟩
theorem diffsTo_nil {a b : List UInt64} {k : Nat} (h : ∀ i, i < k → a[i]? = b[i]?) : diffsTo a b k = [] := by
  unfold diffsTo
  rw [List.map_eq_nil_iff, List.filter_eq_nil_iff]
  intro i hi
  simp [h i (List.mem_range.1 hi)]
theorem diffsTo_nil_iff {a b : List UInt64} (hl : a.length = b.length) : diffsTo a b a.length = [] ↔ a = b := by
  constructor
  · intro h
    apply List.ext_getElem?
    intro i
    by_cases hi : i < a.length
    · by_cases e : a[i]? = b[i]?
      · exact e
      · exfalso
        have hm : i ∈ (List.range a.length).filter fun i => decide (a[i]? ≠ b[i]?) := List.mem_filter.2 ⟨List.mem_range.2 hi, decide_eq_true e⟩
        unfold diffsTo at h
        rw [List.map_eq_nil_iff] at h
        rw [h] at hm; cases hm
    · rw [List.getElem?_eq_none (by omega), List.getElem?_eq_none (by omega)]
  · rintro rfl; exact diffsTo_nil (fun _ _ => rfl)
theorem diffsTo_more {a b : List UInt64} {n : Nat} (h : ∀ i, n ≤ i → a[i]? = b[i]?) : ∀ k, n ≤ k → diffsTo a b k = diffsTo a b n
  | 0, h0 => by rw [Nat.le_zero.1 h0]
  | k + 1, h0 => by
    by_cases hk : n = k + 1
    · rw [hk]
    · rw [diffsTo_succ, diffsTo_more h k (by omega), if_neg (by simp [h k (by omega)]), List.append_nil]
theorem diffsTo_congr {a b a' b' : List UInt64} {k : Nat} (h1 : ∀ i, i < k → a[i]? = a'[i]?) (h2 : ∀ i, i < k → b[i]? = b'[i]?) : diffsTo a b k = diffsTo a' b' k := by
  unfold diffsTo
  congr 1
  apply List.filter_congr
  intro i hi
  rw [h1 i (List.mem_range.1 hi), h2 i (List.mem_range.1 hi)]

section
variable {m : List UInt64}
theorem diff_ok (h : rErr m = 0) : diffErr m (view m) = 0 ∧ diffs m (view m) = diffsTo m (view m) m.length := by
  have h1 := (rErr_ok h).1
  have h2 := view_len h
  have e : diffErr m (view m) = 0 := by rw [diffErr, if_pos ⟨h1, by rw [h2]; exact h1⟩, if_pos h2.symm]
  exact ⟨e, if_pos e⟩
/-- behind the copies all is as it was -/
theorem view_far (h : rErr m = 0) {i : Nat} (hi : 16 ≤ i) : m[i]? = (view m)[i]? := by
  rw [view_ok h, List.getElem?_append_right (by rw [one_len h]; omega), List.getElem?_append_right (by rw [one_len h]; omega), List.getElem?_drop, one_len h]
  congr 1; omega
theorem heals_to (h : rErr m = 0) : heals m = (diffsTo m (view m) 16).map fun i => (i, (view m).getD i.toNat 0) := by
  have := (rErr_ok h).1.1
  rw [heals, if_pos h, (diff_ok h).2, diffsTo_more (fun i hi => view_far h hi) m.length (by omega)]
/-- a word of a copy that is right is not changed -/
theorem heals_0 (h : rErr m = 0) (h0 : is0 m = true) {i : Nat} (hi : i < 8) : m[i]? = (view m)[i]? := by
  have ho : one m = c0 m := if_pos h0
  have : m[i]? = (one m)[i]? := by rw [ho, c0, List.getElem?_take, if_pos hi]
  rw [this, view_ok h, List.getElem?_append_left (by rw [one_len h]; exact hi)]
theorem heals_1 (h : rErr m = 0) (h0 : is0 m = false) {i : Nat} (hi : 8 ≤ i) (hi2 : i < 16) : m[i]? = (view m)[i]? := by
  have ho : one m = c1 m := if_neg (by simp [h0])
  have h2 : (c1 m)[i - 8]? = m[i]? := by rw [c1, List.getElem?_take, if_pos (by omega), List.getElem?_drop, show 8 + (i - 8) = i by omega]
  rw [view_ok h, List.getElem?_append_right (by rw [one_len h]; omega), List.getElem?_append_left (by rw [one_len h]; omega), one_len h, ho, h2]
/-- TwinAgain -/
theorem again (h : rErr m = 0) : is0 (view m) = true ∧ is1 (view m) = true ∧ rErr (view m) = 0 ∧ sW (view m) = sW m ∧ sT (view m) = sT m ∧ view (view m) = view m ∧ heals (view m) = [] := by
  have hs : SizeOk (view m).length := by rw [view_len h]; exact (rErr_ok h).1
  have hg : CopyOk (view m).length (one m) := by rw [view_len h]; exact one_good h
  obtain ⟨e0, e1, e2, _⟩ := two_spec (view_ok h) (one_len h) (one_len h) hs
  obtain ⟨e3, e4, e5⟩ := e2 hg
  have e6 : view (view m) = view m := by rw [e5, view_ok h]
  refine ⟨by rw [e0]; exact decide_eq_true hg, by rw [e1]; exact decide_eq_true hg, e3, ?_, ?_, e6, ?_⟩
  · rw [sW, if_pos e3, view_len h, sW, if_pos h]
  · rw [sT, if_pos e3, e4, sT, if_pos h]
  · rw [heals, if_pos e3, (diff_ok e3).2, e6, diffsTo_nil (fun _ _ => rfl)]; rfl
theorem heals_len (h : rErr m = 0) : (heals m).length = (diffs m (view m)).length := by rw [heals, if_pos h, List.length_map]
theorem heals_at (h : rErr m = 0) {k : Nat} {x : Int} {y : UInt64} (hk : (heals m)[k]? = some (x, y)) : (diffs m (view m))[k]? = some x ∧ ∃ i : Nat, x = (i : Int) ∧ i < 16 ∧ (view m)[i]? = some y ∧ (if is0 m = true then 8 ≤ i else i < 8) := by
  have hd := hk
  rw [heals, if_pos h, List.getElem?_map] at hd
  obtain ⟨z, hz, hz2⟩ := Option.map_eq_some_iff.1 hd
  simp only [Prod.mk.injEq] at hz2
  obtain ⟨rfl, rfl⟩ := hz2
  refine ⟨hz, ?_⟩
  have hz' := List.mem_of_getElem? hz
  rw [(diff_ok h).2, diffsTo_more (fun i hi => view_far h hi) m.length (by have := (rErr_ok h).1.1; omega)] at hz'
  obtain ⟨i, rfl, hi, hne⟩ := diffsTo_mem hz'
  have hv : i < (view m).length := by rw [view_len h]; have := (rErr_ok h).1.1; omega
  refine ⟨i, rfl, hi, by simp [List.getD_eq_getElem?_getD, List.getElem?_eq_getElem hv], ?_⟩
  split
  · rename_i h0
    by_cases h8 : i < 8
    · exact absurd (heals_0 h h0 h8) hne
    · omega
  · rename_i h0
    by_cases h8 : i < 8
    · exact h8
    · exact absurd (heals_1 h (by simpa using h0) (by omega) hi) hne
theorem heals_no (h : rErr m ≠ 0) : view m = [] ∧ heals m = [] ∧ sW m = 0 ∧ sT m = 0 := ⟨if_neg h, if_neg h, if_neg h, if_neg h⟩
/-- TwinApart -/
theorem apart {k : Nat} (hk : 16 ≤ k) (x : UInt64) : rErr (m.set k x) = rErr m ∧ is0 (m.set k x) = is0 m ∧ is1 (m.set k x) = is1 m ∧ sW (m.set k x) = sW m ∧ sT (m.set k x) = sT m ∧ heals (m.set k x) = heals m := by
  have e0 : c0 (m.set k x) = c0 m := by rw [c0, List.take_set_of_le (by omega)]; rfl
  have e1 : c1 (m.set k x) = c1 m := by rw [c1, List.drop_set, if_neg (by omega), List.take_set_of_le (by omega)]; rfl
  have i0 : is0 (m.set k x) = is0 m := by unfold is0; rw [e0, List.length_set]
  have i1 : is1 (m.set k x) = is1 m := by unfold is1; rw [e1, List.length_set]
  have r : rErr (m.set k x) = rErr m := by unfold rErr; rw [i0, i1, List.length_set]
  have o : one (m.set k x) = one m := by unfold one; rw [i0, e0, e1]
  refine ⟨r, i0, i1, by unfold sW; rw [r, List.length_set], by unfold sT; rw [r, o], ?_⟩
  by_cases h : rErr m = 0
  · have h' : rErr (m.set k x) = 0 := r.trans h
    have ev : ∀ i, i < 16 → (view (m.set k x))[i]? = (view m)[i]? := fun i hi => by
      rw [view_ok h, view_ok h', o, ← List.append_assoc, ← List.append_assoc, List.getElem?_append_left (l₁ := one m ++ one m) (by simp [one_len h]; omega), List.getElem?_append_left (l₁ := one m ++ one m) (by simp [one_len h]; omega)]
    rw [heals_to h, heals_to h', diffsTo_congr (a' := m) (b' := view m) (fun i hi => by rw [List.getElem?_set_ne (by omega)]) ev]
    apply List.map_congr_left
    intro y hy
    obtain ⟨i, rfl, hi, _⟩ := diffsTo_mem hy
    simp only [Int.toNat_natCast, List.getD_eq_getElem?_getD, ev i hi]
  · rw [heals, if_neg (by rw [r]; exact h), heals, if_neg h]
end
/-- an image of zeros with a superblock in both copies -/
def made (W T : Int) : List UInt64 := wordsOf W T ++ (wordsOf W T ++ List.replicate (W.toNat - 16) 0)
theorem made_len {W T : Int} (h : SupOk W T) : (made W T).length = W.toNat := by
  have := h.1.1
  simp [made, len_words]; omega
theorem made_size {W T : Int} (h : SupOk W T) : SizeOk (made W T).length := by
  rw [made_len h, show ((W.toNat : Nat) : Int) = W by have := h.1.1; omega]; exact h.1
/-- TwinHeals -/
theorem heals_one {W T : Int} (h : SupOk W T) {l r x M : List UInt64} (hl : l.length = 8) (hr : M = wordsOf W T ++ (wordsOf W T ++ r)) (hM : (M.length : Int) = W) (which : Bool)
    (hx : x = if which then wordsOf W T ++ (l ++ r) else l ++ (wordsOf W T ++ r)) (hno : which = false → ¬ (ReadOk l ∧ at2 l = W)) :
    rErr x = 0 ∧ sW x = W ∧ sT x = T ∧ (if which then is0 x else is1 x) = true ∧ view x = M := by
  have hlen : x.length = M.length := by rw [hx, hr]; cases which <;> simp [hl, len_words]
  have hs : SizeOk x.length := by rw [hlen, hM]; exact h.1
  have hg : CopyOk x.length (wordsOf W T) := good_words h (by rw [hlen, hM])
  cases which
  · obtain ⟨e0, e1, _, e2⟩ := two_spec (m := x) hx hl (len_words W T) hs
    have hng : ¬ CopyOk x.length l := fun hg => hno rfl ⟨hg.1, by rw [hg.2, hlen, hM]⟩
    obtain ⟨e3, e4, e5⟩ := e2 hng hg
    exact ⟨e3, by rw [sW, if_pos e3, hlen, hM], by rw [sT, if_pos e3, e4, at3_words h], by simp [e1, hg], by rw [e5, hr]⟩
  · obtain ⟨e0, e1, e2, _⟩ := two_spec (m := x) hx (len_words W T) hl hs
    obtain ⟨e3, e4, e5⟩ := e2 hg
    exact ⟨e3, by rw [sW, if_pos e3, hlen, hM], by rw [sT, if_pos e3, e4, at3_words h], by simp [e0, hg], by rw [e5, hr]⟩
/-- TwinFirst -/
theorem first_one {W T T' : Int} (h : SupOk W T) (h' : SupOk W T') {m : List UInt64} (hm : m = wordsOf W T ++ (wordsOf W T' ++ List.replicate (W.toNat - 16) 0)) :
    rErr m = 0 ∧ sW m = W ∧ sT m = T ∧ is0 m = true ∧ is1 m = true ∧ view m = made W T ∧ (heals m = [] ↔ T = T') ∧ ∀ (x : Int) (y : UInt64) (k : Nat), (heals m)[k]? = some (x, y) → 8 ≤ x ∧ x ≤ 15 := by
  have h1 := h.1.1
  have hlen : (m.length : Int) = W := by rw [hm]; simp [len_words]; omega
  have hs : SizeOk m.length := by rw [hlen]; exact h.1
  obtain ⟨e0, e1, e2, _⟩ := two_spec hm (len_words W T) (len_words W T') hs
  have hg := good_words h hlen
  obtain ⟨e3, e4, e5⟩ := e2 hg
  have i0 : is0 m = true := by rw [e0]; exact decide_eq_true hg
  have hv : view m = made W T := e5
  refine ⟨e3, by rw [sW, if_pos e3, hlen], by rw [sT, if_pos e3, e4, at3_words h], i0, by rw [e1]; exact decide_eq_true (good_words h' hlen), hv, ?_, fun x y k hk => ?_⟩
  · rw [heals, if_pos e3, List.map_eq_nil_iff, (diff_ok e3).2, diffsTo_nil_iff (view_len e3).symm]
    constructor
    · intro he
      rw [hv, hm, made] at he
      have h3 := List.append_cancel_left he
      have h4 := List.append_cancel_right h3
      exact (words_inj h' h h4).2.symm
    · rintro rfl; rw [hv, hm]; rfl
  · obtain ⟨_, i, rfl, h16, _, h8⟩ := heals_at e3 hk
    rw [if_pos i0] at h8
    omega
end Go.Proofs.Ytcfohfphhpmmdaa.L07
