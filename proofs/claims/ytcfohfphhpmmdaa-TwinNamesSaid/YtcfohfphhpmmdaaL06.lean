/- Superblocks, as plain functions, and what the laws ask of them. Nothing of the program. -/
import Derived.Test.YtcfohfphhpmmdaaL02
import Derived.Test.YtcfohfphhpmmdaaL05
set_option linter.unusedVariables false
set_option linter.unusedSimpArgs false
namespace Go.Proofs.Ytcfohfphhpmmdaa.L06
open L02 L05

def SupOk (W T : Int) : Prop := SizeOk W ∧ 0 ≤ T ∧ T ≤ 8
instance (W T : Int) : Decidable (SupOk W T) := inferInstanceAs (Decidable (SizeOk W ∧ 0 ≤ T ∧ T ≤ 8))
def supErr (W T : Int) : Int := if SupOk W T then 0 else 8
def magic : UInt64 := 32777959566500194
def u (n : Int) : UInt64 := UInt64.ofNat n.toNat
def body (W T : Int) : List UInt64 := [magic, 1, u W, u T, 0, 0, 0]
def wordsOf (W T : Int) : List UInt64 := body W T ++ [sum (body W T)]
def write (W T : Int) : List UInt64 := if SupOk W T then wordsOf W T else []
def at2 (l : List UInt64) : Int := (l.getD 2 0).toNat
def at3 (l : List UInt64) : Int := (l.getD 3 0).toNat
def ReadOk (l : List UInt64) : Prop := SupOk (at2 l) (at3 l) ∧ l = wordsOf (at2 l) (at3 l)
instance (l : List UInt64) : Decidable (ReadOk l) := inferInstanceAs (Decidable (SupOk (at2 l) (at3 l) ∧ l = wordsOf (at2 l) (at3 l)))
def rdW (l : List UInt64) : Int := if ReadOk l then at2 l else 0
def rdT (l : List UInt64) : Int := if ReadOk l then at3 l else 0
def rdErr (l : List UInt64) : Int := if l.length = 8 then (if ReadOk l then 0 else 50) else 2

theorem u_nat {n : Int} (h0 : 0 ≤ n) (h1 : n < 18446744073709551616) : ((u n).toNat : Int) = n := by
  unfold u; rw [UInt64.toNat_ofNat', Nat.mod_eq_of_lt (by omega)]; omega
theorem len_words (W T : Int) : (wordsOf W T).length = 8 := rfl
theorem at2_words {W T : Int} (h : SupOk W T) : at2 (wordsOf W T) = W := by
  have := h.1.1; have := h.1.2.1
  show ((u W).toNat : Int) = W
  exact u_nat (by omega) (by omega)
theorem at3_words {W T : Int} (h : SupOk W T) : at3 (wordsOf W T) = T := by
  have := h.2.1; have := h.2.2
  show ((u T).toNat : Int) = T
  exact u_nat (by omega) (by omega)
theorem readOk_words {W T : Int} (h : SupOk W T) : ReadOk (wordsOf W T) := by
  unfold ReadOk; rw [at2_words h, at3_words h]; exact ⟨h, rfl⟩
theorem readOk_len {l : List UInt64} (h : ReadOk l) : l.length = 8 := by rw [h.2]; rfl
theorem rd_words {W T : Int} (h : SupOk W T) : rdW (wordsOf W T) = W ∧ rdT (wordsOf W T) = T ∧ rdErr (wordsOf W T) = 0 := by
  have h1 := readOk_words h
  refine ⟨?_, ?_, ?_⟩
  · rw [rdW, if_pos h1, at2_words h]
  · rw [rdT, if_pos h1, at3_words h]
  · rw [rdErr, if_pos (len_words W T), if_pos h1]
theorem rd_no {l : List UInt64} (h : ¬ ReadOk l) : rdW l = 0 ∧ rdT l = 0 := ⟨if_neg h, if_neg h⟩
theorem words_inj {W T W' T' : Int} (h : SupOk W T) (h' : SupOk W' T') (e : wordsOf W T = wordsOf W' T') : W = W' ∧ T = T' := by
  have e2 : at2 (wordsOf W T) = at2 (wordsOf W' T') := by rw [e]
  have e3 : at3 (wordsOf W T) = at3 (wordsOf W' T') := by rw [e]
  rw [at2_words h, at2_words h'] at e2
  rw [at3_words h, at3_words h'] at e3
  exact ⟨e2, e3⟩

/-! ### the sum tells one byte -/
def inv : UInt64 := 14886173955864302971
theorem prime_inv : prime * inv = 1 := by decide
theorem mul_prime_inj {a b : UInt64} (h : a * prime = b * prime) : a = b := by
  have : a * prime * inv = b * prime * inv := by rw [h]
  rwa [UInt64.mul_assoc, UInt64.mul_assoc, prime_inv, UInt64.mul_one, UInt64.mul_one] at this
theorem xor_right_inj {a b c : UInt64} (h : a ^^^ c = b ^^^ c) : a = b := by
  have : a ^^^ c ^^^ c = b ^^^ c ^^^ c := by rw [h]
  simpa [UInt64.xor_assoc] using this
theorem xor_left_inj {a b c : UInt64} (h : c ^^^ a = c ^^^ b) : a = b := by
  rw [UInt64.xor_comm c a, UInt64.xor_comm c b] at h; exact xor_right_inj h
theorem fnv_inj {s t : UInt64} {b : UInt8} (h : fnv s b = fnv t b) : s = t := xor_right_inj (mul_prime_inj h)
theorem fnv_inj_byte {s : UInt64} {b c : UInt8} (h : fnv s b = fnv s c) : b = c := by
  have := xor_left_inj (mul_prime_inj h)
  have h2 : b.toUInt64.toNat = c.toUInt64.toNat := by rw [this]
  rw [UInt8.toNat_toUInt64, UInt8.toNat_toUInt64] at h2
  exact UInt8.toNat_inj.1 h2
theorem wordTo_inj {s t x : UInt64} : ∀ k, wordTo s x k = wordTo t x k → s = t
  | 0, h => h
  | k + 1, h => wordTo_inj k (fnv_inj h)
theorem behind_inj {s t : UInt64} {l : List UInt64} (h : behind s l = behind t l) : s = t := by
  induction l generalizing s t with
  | nil => exact h
  | cons x l ih => exact wordTo_inj 8 (ih (s := wordStep s x) (t := wordStep t x) h)
/-- from byte j on the words are alike: the states are alike just if they were. -/
theorem wordTo_from {x y : UInt64} {j : Nat} (hxy : ∀ k, j ≤ k → byteAt x k = byteAt y k) {s t : UInt64} : ∀ r, wordTo s x (j + r) = wordTo t y (j + r) → wordTo s x j = wordTo t y j
  | 0, h => h
  | r + 1, h => by
    have h' : fnv (wordTo s x (j + r)) (byteAt x (j + r)) = fnv (wordTo t y (j + r)) (byteAt y (j + r)) := h
    rw [hxy (j + r) (by omega)] at h'
    exact wordTo_from hxy r (fnv_inj h')
theorem wordTo_upto {x y s : UInt64} : ∀ j, (∀ k, k < j → byteAt x k = byteAt y k) → wordTo s x j = wordTo s y j
  | 0, _ => rfl
  | j + 1, h => by
    show fnv _ _ = fnv _ _
    rw [wordTo_upto j (fun k hk => h k (by omega)), h j (by omega)]
/-- two words that differ in just one byte give two states. -/
theorem wordStep_ne {x y s : UInt64} {b : Nat} (hb : b < 8) (hother : ∀ k, k ≠ b → byteAt x k = byteAt y k) (hbyte : byteAt x b ≠ byteAt y b) : wordStep s x ≠ wordStep s y := by
  intro h
  have h1 : wordTo s x (b + 1) = wordTo s y (b + 1) := by
    have := wordTo_from (x := x) (y := y) (j := b + 1) (fun k hk => hother k (by omega)) (s := s) (t := s) (7 - b)
    rw [show b + 1 + (7 - b) = 8 by omega] at this
    exact this h
  have h2 : fnv (wordTo s x b) (byteAt x b) = fnv (wordTo s y b) (byteAt y b) := h1
  rw [wordTo_upto b (fun k hk => hother k (by omega))] at h2
  exact hbyte (fnv_inj_byte h2)
/-- lists that differ in one byte of one word have two sums. -/
theorem sum_ne {p q : List UInt64} {x y : UInt64} {b : Nat} (hb : b < 8) (hother : ∀ k, k ≠ b → byteAt x k = byteAt y k) (hbyte : byteAt x b ≠ byteAt y b) : sum (p ++ x :: q) ≠ sum (p ++ y :: q) := by
  intro h
  unfold sum behind at h
  rw [List.foldl_append, List.foldl_append, List.foldl_cons, List.foldl_cons] at h
  exact wordStep_ne hb hother hbyte (behind_inj h)
theorem two_pow8 (k : Nat) : (256 : Nat) ^ k = 2 ^ (8 * k) := by rw [Nat.pow_mul]
theorem byte_xor (a d k : Nat) : (a ^^^ d) / 256 ^ k % 256 = (a / 256 ^ k % 256) ^^^ (d / 256 ^ k % 256) := by
  rw [two_pow8, show (256 : Nat) = 2 ^ 8 from rfl, Nat.xor_div_two_pow, Nat.xor_mod_two_pow]
theorem byte_shift (c : Nat) (hc : c < 256) (b k : Nat) : c * 256 ^ b / 256 ^ k % 256 = if k = b then c else 0 := by
  by_cases h : k = b
  · subst h; rw [if_pos rfl, Nat.mul_div_cancel _ (Nat.pos_of_ne_zero (by simp)), Nat.mod_eq_of_lt hc]
  · rw [if_neg h]
    rcases Nat.lt_or_gt_of_ne h with hlt | hgt
    · obtain ⟨r, rfl⟩ : ∃ r, b = k + (r + 1) := ⟨b - k - 1, by omega⟩
      rw [Nat.pow_add, Nat.mul_comm (256 ^ k), ← Nat.mul_assoc, Nat.mul_div_cancel _ (Nat.pos_of_ne_zero (by simp)), Nat.pow_succ, ← Nat.mul_assoc, Nat.mul_mod_left]
    · obtain ⟨r, rfl⟩ : ∃ r, k = b + (r + 1) := ⟨k - b - 1, by omega⟩
      have : c * 256 ^ b < 256 ^ (b + (r + 1)) := by
        rw [Nat.pow_add, Nat.mul_comm]
        refine Nat.mul_lt_mul_of_pos_left ?_ (Nat.pos_of_ne_zero (by simp))
        rw [Nat.pow_succ]
        have : 0 < 256 ^ r := Nat.pow_pos (by omega)
        omega
      rw [Nat.div_eq_of_lt this]
/-- a word with a change of one byte: just that byte is another one. -/
theorem change_byte (x d : UInt64) (c : UInt8) {b : Nat} (hd : d.toNat = c.toNat * 256 ^ b) : (∀ k, k ≠ b → byteAt (x ^^^ d) k = byteAt x k) ∧ byteAt (x ^^^ d) b = byteAt x b ^^^ c := by
  have hc := c.toNat_lt
  have key : ∀ k, (byteAt (x ^^^ d) k).toNat = (byteAt x k).toNat ^^^ (if k = b then c.toNat else 0) := fun k => by
    rw [byteAt_nat, byteAt_nat, UInt64.toNat_xor, byte_xor, hd, byte_shift _ (by omega)]
  refine ⟨fun k hk => ?_, ?_⟩
  · apply UInt8.toNat_inj.1; rw [key, if_neg hk, Nat.xor_zero]
  · apply UInt8.toNat_inj.1; rw [key, if_pos rfl, UInt8.toNat_xor]
theorem xor_ne (x c : UInt8) (h : c ≠ 0) : x ^^^ c ≠ x := by
  intro e
  apply h
  have : x ^^^ (x ^^^ c) = x ^^^ x := by rw [e]
  simpa [← UInt8.xor_assoc] using this
theorem word_ne {x d : UInt64} {c : UInt8} {b : Nat} (hd : d.toNat = c.toNat * 256 ^ b) (h : c ≠ 0) : x ^^^ d ≠ x := by
  intro e
  have h1 := (change_byte x d c hd).2
  rw [e] at h1
  exact xor_ne _ _ h h1.symm

/-- eight words with one byte changed are no superblock's. -/
theorem spoilt {W T : Int} (h : SupOk W T) {i b : Nat} (hi : i < 8) (hb : b < 8) {d : UInt64} {c : UInt8} (hd : d.toNat = c.toNat * 256 ^ b) (hc : c ≠ 0) {x : UInt64} (hx : (wordsOf W T)[i]? = some x) :
    ¬ ReadOk ((wordsOf W T).set i (x ^^^ d)) := by
  intro hr
  obtain ⟨W', T', h', e⟩ : ∃ W' T', SupOk W' T' ∧ (wordsOf W T).set i (x ^^^ d) = wordsOf W' T' := ⟨_, _, hr.1, hr.2⟩
  have hne : x ^^^ d ≠ x := word_ne hd hc
  have hch := change_byte x d c hd
  have hbyte : byteAt (x ^^^ d) b ≠ byteAt x b := by rw [hch.2]; exact xor_ne _ _ hc
  have hget : ∀ j : Nat, ((wordsOf W T).set i (x ^^^ d))[j]? = (wordsOf W' T')[j]? := fun j => by rw [e]
  have g0 := hget 0; have g1 := hget 1; have g2 := hget 2; have g3 := hget 3; have g4 := hget 4; have g5 := hget 5; have g6 := hget 6; have g7 := hget 7
  simp only [List.getElem?_set, len_words] at g0 g1 g2 g3 g4 g5 g6 g7
  have hw : ∀ V S : Int, wordsOf V S = [magic, 1, u V, u S, 0, 0, 0, sum (body V S)] := fun _ _ => rfl
  simp only [hw] at g0 g1 g2 g3 g4 g5 g6 g7 hx
  have h8 : i = 0 ∨ i = 1 ∨ i = 4 ∨ i = 5 ∨ i = 6 ∨ i = 7 ∨ i = 2 ∨ i = 3 := by omega
  clear hget
  rcases h8 with rfl | rfl | rfl | rfl | rfl | rfl | rfl | rfl
  · simp at g0 hx; subst hx; exact hne g0
  · simp at g1 hx; subst hx; exact hne g1
  · simp at g4 hx; subst hx; exact hne (by rw [← g4]; simp)
  · simp at g5 hx; subst hx; exact hne (by rw [← g5]; simp)
  · simp at g6 hx; subst hx; exact hne (by rw [← g6]; simp)
  · simp at g7 g2 g3 hx
    have e2 : body W T = body W' T' := by simp [body, g2, g3]
    rw [← e2, hx] at g7
    exact hne g7
  · simp at g7 g2 g3 hx
    subst hx
    have := sum_ne (p := [magic, 1]) (q := [u T, 0, 0, 0]) hb (fun k hk => (hch.1 k hk).symm) (Ne.symm hbyte)
    rw [g2] at this
    rw [show sum (body W' T') = sum ([magic, 1] ++ u W' :: [u T, 0, 0, 0]) by rw [g3]; rfl] at g7
    exact this g7
  · simp at g7 g2 g3 hx
    subst hx
    have := sum_ne (p := [magic, 1, u W]) (q := [0, 0, 0]) hb (fun k hk => (hch.1 k hk).symm) (Ne.symm hbyte)
    rw [g3] at this
    rw [show sum (body W' T') = sum ([magic, 1, u W] ++ u T' :: [0, 0, 0]) by rw [g2]; rfl] at g7
    exact this g7
end Go.Proofs.Ytcfohfphhpmmdaa.L06
