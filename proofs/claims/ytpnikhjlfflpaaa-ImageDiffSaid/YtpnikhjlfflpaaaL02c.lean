/- Plain laws on images: where an image with some words put differs; an image with the other one's words, one by one. Nothing of the program. -/
import Derived.Test.YtpnikhjlfflpaaaL02
set_option linter.unusedVariables false
set_option linter.unusedSimpArgs false
namespace Go.Proofs.Ytpnikhjlfflpaaa.L02

/-- The addresses, among the first k words put, where the image had another word. -/
def putD (m : List UInt64) (a : Nat) (l : List UInt64) (k : Nat) : List Int := ((List.range k).filter fun j => decide (m[a + j]? ≠ l[j]?)).map fun (j : Nat) => (a : Int) + (j : Int)

theorem putD_succ (m l : List UInt64) (a k : Nat) : putD m a l (k + 1) = putD m a l k ++ (if m[a + k]? ≠ l[k]? then [(a : Int) + (k : Int)] else []) := by
  unfold putD
  rw [List.range_succ, List.filter_append, List.map_append]
  by_cases h : m[a + k]? = l[k]? <;> simp [h]
theorem putD_pre (m l : List UInt64) (a k : Nat) : ∀ r, ∃ t, putD m a l (k + r) = putD m a l k ++ t
  | 0 => ⟨[], by simp⟩
  | r + 1 => by
    obtain ⟨t, h⟩ := putD_pre m l a k r
    exact ⟨_, by rw [← Nat.add_assoc, putD_succ, h, List.append_assoc]⟩
theorem putD_at {m l : List UInt64} {a k n : Nat} (hk : k < n) (h : m[a + k]? ≠ l[k]?) : (putD m a l n)[(putD m a l k).length]? = some ((a : Int) + (k : Int)) := by
  obtain ⟨t, e⟩ := putD_pre m l a (k + 1) (n - (k + 1))
  rw [show k + 1 + (n - (k + 1)) = n by omega, putD_succ, if_pos h, List.append_assoc] at e
  rw [e, List.getElem?_append_right (Nat.le_refl _)]
  simp
theorem putD_lt {m l : List UInt64} {a k n : Nat} (hk : k < n) (h : m[a + k]? ≠ l[k]?) : (putD m a l k).length < (putD m a l n).length := by
  have := putD_at hk h
  exact (List.getElem?_eq_some_iff.1 this).1
theorem putD_len (m l : List UInt64) (a k : Nat) : (putD m a l k).length ≤ k := by
  unfold putD
  have := List.length_filter_le (fun j => decide (m[a + j]? ≠ l[j]?)) (List.range k)
  simpa using this

/-- the words of an image with some put. -/
def laid (m : List UInt64) (a : Nat) (l : List UInt64) : List UInt64 := m.take a ++ (l ++ m.drop (a + l.length))
theorem laid_get {m l : List UInt64} {a : Nat} (h : a + l.length ≤ m.length) (i : Nat) : (laid m a l)[i]? = if i < a then m[i]? else if i < a + l.length then l[i - a]? else m[i]? := by
  unfold laid
  by_cases h1 : i < a
  · rw [if_pos h1, List.getElem?_append_left (by rw [List.length_take]; omega), List.getElem?_take, if_pos h1]
  · rw [if_neg h1, List.getElem?_append_right (by rw [List.length_take]; omega), List.length_take, show min a m.length = a by omega]
    by_cases h2 : i < a + l.length
    · rw [if_pos h2, List.getElem?_append_left (by omega)]
    · rw [if_neg h2, List.getElem?_append_right (by omega), List.getElem?_drop]
      congr 1; omega
theorem laid_len {m l : List UInt64} {a : Nat} (h : a + l.length ≤ m.length) : (laid m a l).length = m.length := by unfold laid; simp; omega
theorem laid_get_lo {m l : List UInt64} {a i : Nat} (h : a + l.length ≤ m.length) (hi : i < a) : (laid m a l)[i]? = m[i]? := by rw [laid_get h, if_pos hi]
theorem laid_get_mid {m l : List UInt64} {a i : Nat} (h : a + l.length ≤ m.length) (hi : i < l.length) : (laid m a l)[a + i]? = l[i]? := by
  rw [laid_get h, if_neg (by omega), if_pos (by omega), show a + i - a = i by omega]
theorem laid_get_hi {m l : List UInt64} {a i : Nat} (h : a + l.length ≤ m.length) (hi : a + l.length ≤ i) : (laid m a l)[i]? = m[i]? := by
  rw [laid_get h, if_neg (by omega), if_neg (by omega)]
theorem laid_lo {m l : List UInt64} {a : Nat} (h : a + l.length ≤ m.length) : ∀ k, k ≤ a → diffsTo m (laid m a l) k = []
  | 0, _ => rfl
  | k + 1, hk => by
    rw [diffsTo_succ, laid_lo h k (by omega), laid_get_lo h (by omega)]; simp
theorem laid_mid {m l : List UInt64} {a : Nat} (h : a + l.length ≤ m.length) : ∀ k, k ≤ l.length → diffsTo m (laid m a l) (a + k) = putD m a l k
  | 0, _ => by rw [Nat.add_zero, laid_lo h a (Nat.le_refl _)]; simp [putD]
  | k + 1, hk => by
    rw [← Nat.add_assoc, diffsTo_succ, laid_mid h k (by omega), laid_get_mid h (by omega), putD_succ]
    simp
theorem laid_hi {m l : List UInt64} {a : Nat} (h : a + l.length ≤ m.length) : ∀ r, diffsTo m (laid m a l) (a + l.length + r) = putD m a l l.length
  | 0 => laid_mid h _ (Nat.le_refl _)
  | r + 1 => by
    rw [← Nat.add_assoc, diffsTo_succ, laid_hi h r, laid_get_hi h (by omega)]; simp
theorem put_diffs {m l : List UInt64} {a : Nat} (hs : SizeOk m.length) (h : a + l.length ≤ m.length) :
    rng m a l.length = 0 ∧ put m a l = laid m a l ∧ diffErr m (laid m a l) = 0 ∧ diffs m (laid m a l) = putD m a l l.length ∧ rng (laid m a l) a l.length = 0 ∧ get (laid m a l) a l.length = l := by
  have h1 : rng m a l.length = 0 := rng_ok hs (by unfold InR; omega)
  have h2 : diffErr m (laid m a l) = 0 := by simp [diffErr, laid_len h, hs]
  have h3 : rng (laid m a l) a l.length = 0 := rng_ok (by rw [laid_len h]; exact hs) (by unfold InR; rw [laid_len h]; omega)
  refine ⟨h1, by simp [put, h1, laid], h2, ?_, h3, ?_⟩
  · rw [diffs, if_pos h2]
    have := laid_hi h (m.length - (a + l.length))
    rwa [show a + l.length + (m.length - (a + l.length)) = m.length by omega] at this
  · rw [get, if_pos h3]
    simp only [Int.toNat_natCast, laid]
    rw [List.drop_append_of_le_length (by simp; omega)]
    rw [List.drop_of_length_le (by simp; omega)]
    simp

theorem diffErr_comm (a b : List UInt64) : diffErr a b = diffErr b a := by
  unfold diffErr
  simp only [and_comm, eq_comm]
theorem diffsTo_comm (a b : List UInt64) : ∀ k, diffsTo a b k = diffsTo b a k
  | 0 => rfl
  | k + 1 => by rw [diffsTo_succ, diffsTo_succ, diffsTo_comm a b k]; simp only [ne_eq, eq_comm]
theorem diffs_comm {a b : List UInt64} (h : a.length = b.length) : diffs a b = diffs b a := by
  unfold diffs; rw [diffErr_comm a b, diffsTo_comm, h]
theorem diffsTo_nil {a b : List UInt64} : ∀ k, diffsTo a b k = [] → a.take k = b.take k
  | 0, _ => by simp
  | k + 1, h => by
    rw [diffsTo_succ] at h
    obtain ⟨h1, h2⟩ := List.append_eq_nil_iff.1 h
    have e : a[k]? = b[k]? := by
      apply Decidable.byContradiction; intro hne
      rw [if_pos hne] at h2; cases h2
    rw [List.take_add_one, List.take_add_one, diffsTo_nil k h1, e]
theorem diffs_nil {a b : List UInt64} (h0 : diffErr a b = 0) (hl : a.length = b.length) : (diffs a b = []) ↔ a = b := by
  rw [diffs, if_pos h0]
  constructor
  · intro h
    have := diffsTo_nil _ h
    rwa [List.take_of_length_le (Nat.le_refl _), List.take_of_length_le (by omega)] at this
  · rintro rfl
    suffices h : ∀ k, diffsTo a a k = [] from h _
    intro k
    induction k with
    | zero => rfl
    | succ k ih => rw [diffsTo_succ, ih]; simp
theorem diffsTo_mem {a b : List UInt64} {k : Nat} {x : Int} (h : x ∈ diffsTo a b k) : ∃ j : Nat, x = j ∧ j < k ∧ a[j]? ≠ b[j]? := by
  unfold diffsTo at h
  obtain ⟨j, hj, rfl⟩ := List.mem_map.1 h
  obtain ⟨h1, h2⟩ := List.mem_filter.1 hj
  exact ⟨j, rfl, List.mem_range.1 h1, by simpa using h2⟩
theorem diffsTo_sorted (a b : List UInt64) (k : Nat) : (diffsTo a b k).Pairwise (· < ·) := by
  unfold diffsTo
  rw [List.pairwise_map]
  refine List.Pairwise.imp (R := (· < ·)) (fun h => by simpa using h) ?_
  exact List.Pairwise.filter _ List.pairwise_lt_range
theorem diffsTo_all {a b : List UInt64} {k j : Nat} (hj : j < k) (h : a[j]? ≠ b[j]?) : (j : Int) ∈ diffsTo a b k := by
  unfold diffsTo
  exact List.mem_map.2 ⟨j, List.mem_filter.2 ⟨List.mem_range.2 hj, by simpa using h⟩, rfl⟩

/-- a, with b's words at the addresses of d. -/
def patch (a b : List UInt64) : List Int → List UInt64
  | [] => a
  | x :: d => patch (match b[x.toNat]? with | some y => a.set x.toNat y | none => a) b d
theorem patch_snoc (a b : List UInt64) (d : List Int) (x : Int) : patch a b (d ++ [x]) = (match b[x.toNat]? with | some y => (patch a b d).set x.toNat y | none => patch a b d) := by
  induction d generalizing a with
  | nil => rfl
  | cons z d ih => simp only [List.cons_append, patch, ih]
theorem patch_len (a b : List UInt64) (d : List Int) : (patch a b d).length = a.length := by
  induction d generalizing a with
  | nil => rfl
  | cons z d ih => rw [patch, ih]; split <;> simp
theorem patch_get (a b : List UInt64) (d : List Int) (hd : ∀ x ∈ d, 0 ≤ x) (i : Nat) : (patch a b d)[i]? = if (i : Int) ∈ d ∧ i < a.length ∧ i < b.length then b[i]? else a[i]? := by
  induction d generalizing a with
  | nil => simp [patch]
  | cons z d ih =>
    rw [patch, ih _ (fun x hx => hd x (List.mem_cons_of_mem _ hx))]
    have hz := hd z (List.mem_cons_self ..)
    obtain ⟨n, rfl⟩ := Int.eq_ofNat_of_zero_le hz
    simp only [Int.toNat_natCast, Int.ofNat_eq_natCast]
    by_cases hb : n < b.length
    · rw [List.getElem?_eq_getElem hb]
      simp only [List.length_set, List.mem_cons, List.getElem?_set]
      by_cases hin : i = n
      · subst hin
        by_cases ha : i < a.length
        · simp [ha, hb]
        · simp [ha, hb]
      · have : ¬ ((i : Int) = (n : Int)) := by omega
        have h2 : ¬ n = i := by omega
        simp [this, h2]
    · rw [List.getElem?_eq_none (by omega)]
      simp only [List.mem_cons]
      by_cases hin : i = n
      · subst hin; simp [hb]
      · have : ¬ ((i : Int) = (n : Int)) := by omega
        simp [this]
theorem patch_end {a b : List UInt64} (h : a.length = b.length) : patch a b (diffsTo a b a.length) = b := by
  apply List.ext_getElem?
  intro i
  rw [patch_get _ _ _ (fun x hx => by obtain ⟨j, rfl, _⟩ := diffsTo_mem hx; omega)]
  split
  · rfl
  · rename_i hn
    by_cases hi : i < a.length
    · apply Decidable.byContradiction
      intro hne
      exact hn ⟨diffsTo_all hi hne, hi, by omega⟩
    · rw [List.getElem?_eq_none (by omega), List.getElem?_eq_none (by omega)]
theorem put_one {m : List UInt64} {k : Nat} {y : UInt64} (hs : SizeOk m.length) (hk : k < m.length) : rng m k 1 = 0 ∧ put m k [y] = m.set k y := by
  have h1 : rng m k 1 = 0 := rng_ok hs (by unfold InR; omega)
  refine ⟨h1, ?_⟩
  have h1' : rng m k ([y] : List UInt64).length = 0 := h1
  rw [put, if_pos h1']
  simp only [Int.toNat_natCast, List.length_cons, List.length_nil]
  rw [List.set_eq_take_append_cons_drop, if_pos hk]; rfl
end Go.Proofs.Ytpnikhjlfflpaaa.L02
