/- Contracts of the functions that the law 'LayoutHas' reaches, part 2. No condition. -/
import Derived.Test.YtbfmdbeeiicabaaMLHsa
set_option linter.unusedVariables false
set_option linter.unusedSimpArgs false
namespace Go.Proofs.Ytbfmdbeeiicabaa.L15
open L02 L14
/-- the block that stands at an address -/
def stand (l : List UInt64) (k : Nat) : Hb := { split (l.getD k 0) with at_ := k, next := l.getD (k + 1) 0 }
def StOk (l : List UInt64) (k : Nat) : Prop := HdOk (l.getD k 0) ∧ (k : Int) + (split (l.getD k 0)).size ≤ l.length
instance (l : List UInt64) (k : Nat) : Decidable (StOk l k) := inferInstanceAs (Decidable (_ ∧ _))
def szN (l : List UInt64) (k : Nat) : Nat := (split (l.getD k 0)).size.toNat
/-- the blocks from an address on, in at most f steps -/
def fromF (l : List UInt64) : Nat → Nat → Option (List Hb)
  | 0, k => if k = l.length then some [] else none
  | f + 1, k => if k = l.length then some [] else if StOk l k then (fromF l f (k + szN l k)).map (stand l k :: ·) else none
def from_ (l : List UInt64) (k : Nat) : Option (List Hb) := fromF l (l.length - k) k
/-- two free extents side by side -/
def Adj : List Hb → Prop
  | a :: b :: L => (a.kind = 2 ∧ b.kind = 2) ∨ Adj (b :: L)
  | _ => False
instance adjDec : (L : List Hb) → Decidable (Adj L)
  | [] => inferInstanceAs (Decidable False)
  | [_] => inferInstanceAs (Decidable False)
  | a :: b :: L => by
    have := adjDec (b :: L)
    exact inferInstanceAs (Decidable ((a.kind = 2 ∧ b.kind = 2) ∨ Adj (b :: L)))
def parsed (l : List UInt64) : Option (List Hb) := match from_ l 128 with | some L => if Adj L then none else some L | none => none
def fromErr (l : List UInt64) (a : Int) : Int := if SizeOk l.length then (if 128 ≤ a ∧ a ≤ l.length ∧ a % 2 = 0 then (if (from_ l a.toNat).isSome then 0 else 50) else 2) else 8
def fromL (l : List UInt64) (a : Int) : List Hb := if fromErr l a = 0 then (from_ l a.toNat).getD [] else []
def allErr (l : List UInt64) : Int := if SizeOk l.length then (if (parsed l).isSome then 0 else 50) else 8
def allL (l : List UInt64) : List Hb := (if allErr l = 0 then (parsed l).getD [] else [])
theorem szN_ge {l : List UInt64} {k : Nat} (h : StOk l k) : 2 ≤ szN l k ∧ (szN l k : Int) = (split (l.getD k 0)).size ∧ szN l k % 2 = 0 ∧ k + szN l k ≤ l.length ∧ szN l k ≤ 1920 := by
  obtain ⟨h1, h2⟩ := h
  have := (split_ok h1).bounds
  unfold szN
  omega
theorem fromF_more {l : List UInt64} : ∀ (f k : Nat), l.length - k ≤ f → k ≤ l.length → fromF l f k = fromF l (l.length - k) k
  | 0, k, h, hk => by rw [show l.length - k = 0 by omega]
  | f + 1, k, h, hk => by
    by_cases hl : k = l.length
    · subst hl
      rw [Nat.sub_self, fromF, fromF, if_pos rfl, if_pos rfl]
    · obtain ⟨d, hd⟩ : ∃ d, l.length - k = d + 1 := ⟨l.length - k - 1, by omega⟩
      rw [hd, fromF, fromF, if_neg hl, if_neg hl]
      by_cases hs : StOk l k
      · rw [if_pos hs, if_pos hs]
        have hz := szN_ge hs
        rw [fromF_more f _ (by omega) hz.2.2.2.1, fromF_more d _ (by omega) hz.2.2.2.1]
      · rw [if_neg hs, if_neg hs]
termination_by f => f
theorem from_end {l : List UInt64} : from_ l l.length = some [] := by rw [from_, Nat.sub_self, fromF, if_pos rfl]
theorem from_no {l : List UInt64} {k : Nat} (hk : k < l.length) (h : ¬ StOk l k) : from_ l k = none := by
  obtain ⟨d, hd⟩ : ∃ d, l.length - k = d + 1 := ⟨l.length - k - 1, by omega⟩
  rw [from_, hd, fromF, if_neg (by omega), if_neg h]
theorem from_step {l : List UInt64} {k : Nat} (hk : k < l.length) (h : StOk l k) : from_ l k = (from_ l (k + szN l k)).map (stand l k :: ·) := by
  obtain ⟨d, hd⟩ : ∃ d, l.length - k = d + 1 := ⟨l.length - k - 1, by omega⟩
  have hz := szN_ge h
  rw [from_, hd, fromF, if_neg (by omega), if_pos h, fromF_more d _ (by omega) hz.2.2.2.1]; rfl
theorem from_past {l : List UInt64} {k : Nat} (hk : l.length < k) : from_ l k = none := by
  rw [from_, show l.length - k = 0 by omega, fromF, if_neg (by omega)]
/-- a chain of blocks: each one stands at the end of the one before -/
inductive Chain (l : List UInt64) : Nat → List Hb → Prop where
  | nil : Chain l l.length []
  | cons {k : Nat} {L : List Hb} : k < l.length → StOk l k → Chain l (k + szN l k) L → Chain l k (stand l k :: L)
theorem chain_of {l : List UInt64} : ∀ (n k : Nat) (L : List Hb), l.length - k ≤ n → from_ l k = some L → Chain l k L
  | n, k, L, hn, h => by
    by_cases hl : k = l.length
    · subst hl
      rw [from_end] at h; injection h with h; subst h; exact .nil
    · by_cases hk : k < l.length
      · by_cases hs : StOk l k
        · rw [from_step hk hs] at h
          have hz := szN_ge hs
          cases h2 : from_ l (k + szN l k) with
          | none => rw [h2] at h; cases h
          | some L' =>
            rw [h2] at h; injection h with h; subst h
            match n, hn with
            | n + 1, hn => exact .cons hk hs (chain_of n _ _ (by omega) h2)
            | 0, hn => omega
        · rw [from_no hk hs] at h; cases h
      · rw [from_past (by omega)] at h; cases h
termination_by n => n
theorem from_chain {l : List UInt64} {k : Nat} {L : List Hb} (h : Chain l k L) : from_ l k = some L := by
  induction h with
  | nil => exact from_end
  | cons hk hs _ ih => rw [from_step hk hs, ih]; rfl
theorem chain_iff {l : List UInt64} {k : Nat} {L : List Hb} : from_ l k = some L ↔ Chain l k L := ⟨chain_of _ _ _ (Nat.le_refl _), from_chain⟩
/-- all blocks of a chain -/
theorem chain_mem {l : List UInt64} {k : Nat} {L : List Hb} (h : Chain l k L) : ∀ b ∈ L, ∃ a : Nat, k ≤ a ∧ a < l.length ∧ StOk l a ∧ b = stand l a ∧ (k % 2 = 0 → a % 2 = 0) := by
  induction h with
  | nil => intro b hb; cases hb
  | cons hk hs hc ih =>
    intro b hb
    rcases List.mem_cons.1 hb with rfl | hb
    · exact ⟨_, Nat.le_refl _, hk, hs, rfl, id⟩
    · obtain ⟨a, h1, h2, h3, h4, h5⟩ := ih b hb
      have := szN_ge hs
      exact ⟨a, by omega, h2, h3, h4, fun h => h5 (by omega)⟩
theorem stand_ok {l : List UInt64} {k : Nat} (h : StOk l k) : BkOk (stand l k) := ok_bare.2 (split_ok h.1)
theorem stand_at (l : List UInt64) (k : Nat) : (stand l k).at_ = k := rfl
theorem stand_size {l : List UInt64} {k : Nat} (h : StOk l k) : (stand l k).size = szN l k := (szN_ge h).2.1.symm
theorem chain_len {l : List UInt64} {k : Nat} {L : List Hb} (h : Chain l k L) : 2 * L.length + k ≤ l.length := by
  induction h with
  | nil => simp
  | cons hk hs hc ih => have := szN_ge hs; simp only [List.length_cons]; omega
theorem parsed_ok {l : List UInt64} {L : List Hb} : parsed l = some L ↔ from_ l 128 = some L ∧ ¬ Adj L := by
  unfold parsed
  generalize from_ l 128 = x
  cases x with
  | none => simp
  | some M =>
    by_cases ha : Adj M
    · simp only [if_pos ha]
      refine ⟨fun e => (by cases e), fun h => ?_⟩
      obtain ⟨e, hn⟩ := h
      have := Option.some.inj e
      subst this
      exact absurd ha hn
    · simp only [if_neg ha]
      refine ⟨fun e => ?_, fun h => h.1⟩
      have := Option.some.inj e
      subst this
      exact ⟨rfl, ha⟩
theorem allErr_ok {l : List UInt64} (h : allErr l = 0) : SizeOk l.length ∧ parsed l = some (allL l) := by
  have h' := h
  unfold allErr at h
  split at h
  · split at h
    · rename_i h1 h2
      obtain ⟨L, hL⟩ := Option.isSome_iff_exists.1 h2
      exact ⟨h1, by simp only [allL, h', hL, if_true, Option.getD_some]⟩
    · omega
  · omega
theorem adj_iff : ∀ {L : List Hb}, Adj L ↔ ∃ (i : Nat) (a b : Hb), L[i]? = some a ∧ L[i + 1]? = some b ∧ a.kind = 2 ∧ b.kind = 2
  | [] => ⟨False.elim, fun ⟨_, _, _, h, _⟩ => by simp at h⟩
  | [x] => ⟨False.elim, fun ⟨i, _, _, _, h, _⟩ => by simp at h⟩
  | x :: y :: L => by
    rw [Adj, adj_iff (L := y :: L)]
    constructor
    · rintro (⟨h1, h2⟩ | ⟨i, a, b, h⟩)
      · exact ⟨0, x, y, rfl, rfl, h1, h2⟩
      · exact ⟨i + 1, a, b, h⟩
    · rintro ⟨i, a, b, h1, h2, h3, h4⟩
      rcases i with _ | i
      · simp at h1 h2; subst h1; subst h2; exact .inl ⟨h3, h4⟩
      · exact .inr ⟨i, a, b, h1, h2, h3, h4⟩
end Go.Proofs.Ytbfmdbeeiicabaa.L15
namespace Go.Proofs.Ytbfmdbeeiicabaa
open Go.RowKit L02 L14 L15
def bkL (b : Hb) : List Value := [.int .i64 b.at_, .int .i64 b.size, .int .i64 b.kind, .int .i64 b.ty, .bool b.mark, .int .u64 b.next.toNat]
def tabB (L : List Hb) : List Value := L.flatMap bkL
theorem tabB_len (L : List Hb) : (tabB L).length = L.length * 6 := by
  induction L with
  | nil => rfl
  | cons s L ih => rw [tabB, List.flatMap_cons, List.length_append, ← tabB, ih]; simp [bkL]; omega
theorem tabB_get : ∀ (L : List Hb) (k : Nat) (s : Hb), L[k]? = some s → ∀ i, i < 6 → (tabB L)[k * 6 + i]? = (bkL s)[i]?
  | [], _, _, h, _, _ => by cases h
  | t :: L, 0, s, h, i, hi => by
    simp at h; subst h
    rw [tabB, List.flatMap_cons, Nat.zero_mul, Nat.zero_add, List.getElem?_append_left (by simpa [bkL] using hi)]
  | t :: L, k + 1, s, h, i, hi => by
    rw [tabB, List.flatMap_cons, List.getElem?_append_right (by simp [bkL]; omega)]
    rw [show (k + 1) * 6 + i - (bkL t).length = k * 6 + i by simp [bkL]; omega]
    exact tabB_get L k s (by simpa using h) i hi
theorem bkL_one (s : Hb) : ∀ u ∈ bkL s, u.oneCell' = true := by
  intro u hu
  simp [bkL] at hu
  rcases hu with rfl | rfl | rfl | rfl | rfl | rfl <;> rfl
theorem tabB_snoc (L : List Hb) (s : Hb) : tabB L ++ bkL s = tabB (L ++ [s]) := by simp [tabB, List.flatMap_append]
theorem size_block : (Try.prog.info? 38).map (·.size) = some 6 := by kernel_rfl
theorem info_block : (Try.prog.info? 38).map (fun i => (i.zero, i.size, i.bytes)) = some (some (.agg #[.int .i64 0, .int .i64 0, .int .i64 0, .int .i64 0, .bool false, .int .u64 0]), 6, 48) := by kernel_rfl
/-- A slice of blocks. -/
def Blks (w : World) (v : Value) (L : List Hb) : Prop := Rd w 6 v L.length (tabB L)
def OwnK (w : World) (base : Nat) (v : Value) (L : List Hb) : Prop := w.ownsRow base 38 6 v L.length (tabB L)
theorem OwnK.rd {w : World} {base : Nat} {v : Value} {L : List Hb} (h : OwnK w base v L) : Blks w v L := Rd.of_own h
theorem Blks.below {w w' : World} {v : Value} {L : List Hb} (h : Blks w v L) (hb : Below w.heap.size w w') : Blks w' v L := Rd.below h hb
theorem OwnK.below {w w' : World} {base : Nat} {v : Value} {L : List Hb} (h : OwnK w base v L) (hb : Below w.heap.size w w') : OwnK w' base v L := own_below h hb
theorem OwnK.mono {w : World} {base base' : Nat} {v : Value} {L : List Hb} (h : OwnK w base v L) (hb : base' ≤ base) : OwnK w base' v L := own_mono h hb
theorem OwnK.nil (w : World) (base : Nat) : OwnK w base (.slice none 0 0) [] := World.ownsRow_nil w base _ 6
theorem Blks.nil (w : World) : Blks w (.slice none 0 0) [] := (OwnK.nil w 0).rd
theorem OwnK.of {w : World} {B n : Nat} {v : Value} {xs : List Value} {L : List Hb} (h : w.ownsRow B 38 6 v n xs) (hx : xs = tabB L) : OwnK w B v L := by
  subst hx
  have hn : n = L.length := by have := h.1; rw [tabB_len] at this; omega
  subst hn; exact h
theorem Blks.len {w : World} {v : Value} {L : List Hb} (h : Blks w v L) : ∀ ty W, (Builtin.len_ #[26] ty #[v]).run Try.prog W = .ok (.int .i64 (L.length : Int)) W := Rd.len h Try.underlying26
theorem Blks.len_le {w : World} {v : Value} {L : List Hb} (h : Blks w v L) : L.length ≤ 9223372036854775807 := Rd.len_le h
theorem Blks.form {w : World} {v : Value} {L : List Hb} (h : Blks w v L) : ∃ A c, v = .slice A L.length c := by
  obtain ⟨A, c, e, _⟩ := h; exact ⟨A, c, e⟩
theorem lit_block {w : World} {e : TypeId} {n : Nat} (s : Hb) (hn : w.heap.size = n) : Rd (w.alloc (.cells #[.int .i64 s.at_, .int .i64 s.size, .int .i64 s.kind, .int .i64 s.ty, .bool s.mark, .int .u64 s.next.toNat] e)) 6 (.slice (some ⟨n, 0, none⟩) 1 1) 1 (bkL s) := by
  subst hn; exact lit_rdK (n := 1) (sz := 6) rfl (by omega)
/-- a block of a slice -/
theorem Blks.at_ {w : World} {v : Value} {L : List Hb} (h : Blks w v L) {k : Nat} (hk : k < L.length) :
    ∃ b o s, (∀ W, (Instr.indexAt 26 v (.int .i64 (k : Int))).run Try.prog W = .ok (.pointer (some ⟨b, o, none⟩)) W) ∧ w.cell? ⟨b, o, none⟩ = some (.int .i64 s.at_) ∧ w.cell? ⟨b, o + 1, none⟩ = some (.int .i64 s.size) ∧ w.cell? ⟨b, o + 2, none⟩ = some (.int .i64 s.kind) ∧ w.cell? ⟨b, o + 3, none⟩ = some (.int .i64 s.ty) ∧ w.cell? ⟨b, o + 4, none⟩ = some (.bool s.mark) ∧ w.cell? ⟨b, o + 5, none⟩ = some (.int .u64 s.next.toNat) ∧ Hid (L[k]? = some s) ∧ b < w.heap.size := by
  have hix := fun W => Rd.ixN (P := Try.prog) h Try.underlying26 size_block hk W
  obtain ⟨b, o, c, rfl, hb, hc, hcell⟩ := Rd.form h (by omega)
  have hs : L[k]? = some L[k] := List.getElem?_eq_getElem hk
  have t0 := tabB_get L k _ hs 0 (by omega)
  have t1 := tabB_get L k _ hs 1 (by omega)
  have t2 := tabB_get L k _ hs 2 (by omega)
  have t3 := tabB_get L k _ hs 3 (by omega)
  have t4 := tabB_get L k _ hs 4 (by omega)
  have t5 := tabB_get L k _ hs 5 (by omega)
  exact ⟨b, o + k * 6, L[k], fun W => hix W, hcell _ _ t0, hcell _ _ t1, hcell _ _ t2, hcell _ _ t3, hcell _ _ t4, hcell _ _ t5, Lib.hid hs, hb⟩
end Go.Proofs.Ytbfmdbeeiicabaa
namespace Go.Proofs.Ytbfmdbeeiicabaa
open Go.RowKit
theorem grown_set (w : World) (p : Addr) (u : Value) : w.grownBy (w.setCell p u) (some p.block) :=
  ⟨rfl, rfl, rfl, by simp [World.setCell], fun k hk hne => Below.heap_setCell w p u k (fun e => hne (by rw [e]))⟩
theorem own_not_bx {w : World} {B e sz n p : Nat} {v : Value} {xs : List Value} {t : TypeId} {cs : Array Value} (h : w.ownsRow B e sz v n xs) (hg : Bx w p t cs) (hne : e ≠ t) : v.ownBlock = none ∨ v.ownBlock ≠ some p := by
  rcases h.2 with ⟨rfl, _⟩ | ⟨g, cap, cur, rfl, _, hgg, _⟩
  · exact .inl rfl
  · refine .inr ?_
    intro he
    simp [Value.ownBlock] at he
    subst he
    rw [Bx, hgg] at hg
    injection hg with hg
    injection hg with _ h2 _
    exact hne h2
theorem own_set {w : World} {B e sz n p i : Nat} {v u : Value} {xs : List Value} {t : TypeId} {cs : Array Value} (h : w.ownsRow B e sz v n xs) (hg : Bx w p t cs) (hne : e ≠ t) : (w.setCell ⟨p, i, none⟩ u).ownsRow B e sz v n xs :=
  World.ownsRow.kept h (grown_set w ⟨p, i, none⟩ u) (own_not_bx h hg hne)
theorem Bx.grown {w w' : World} {g : Nat} {t : TypeId} {cs : Array Value} {row : Option Nat} (h : Bx w g t cs) (hg : w.grownBy w' row) (hne : row = none ∨ row ≠ some g) : Bx w' g t cs := by
  have hl := h.lt
  unfold Bx at *
  rw [hg.block g hl (by rcases hne with rfl | h; · simp
                        · exact fun e => h e.symm)]
  exact h
theorem own_fresh {w : World} {B e sz n : Nat} {v : Value} {xs : List Value} (h : w.ownsRow B e sz v n xs) : v.ownBlock = none ∨ v.ownBlock ≠ some w.heap.size := by
  cases hv : v.ownBlock with
  | none => exact .inl rfl
  | some g => exact .inr (fun e => by injection e with e; have := (h.lt g hv).2; omega)
/-- a store below the base of a row -/
theorem own_apart {w : World} {B e sz n p i : Nat} {v u : Value} {xs : List Value} (h : w.ownsRow B e sz v n xs) (hp : p < B) : (w.setCell ⟨p, i, none⟩ u).ownsRow B e sz v n xs := by
  refine World.ownsRow.kept h (grown_set w ⟨p, i, none⟩ u) ?_
  cases hv : v.ownBlock with
  | none => exact .inl rfl
  | some g => exact .inr (fun e => by injection e with e; subst e; have := (h.lt g hv).1; omega)
/-- the blocks from lo to hi are as they were -/
def Mid (lo hi : Nat) (w w' : World) : Prop := ∀ k, lo ≤ k → k < hi → w'.heap[k]? = w.heap[k]?
theorem Mid.refl (lo hi : Nat) (w : World) : Mid lo hi w w := fun _ _ _ => rfl
theorem Mid.set {lo hi : Nat} {w w' : World} (h : Mid lo hi w w') {p : Addr} (hp : p.block < lo ∨ hi ≤ p.block) (u : Value) : Mid lo hi w (w'.setCell p u) := fun k h1 h2 =>
  (Below.heap_setCell w' p u k (by omega)).trans (h k h1 h2)
theorem Mid.grown {lo hi : Nat} {w w' w'' : World} {row : Option Nat} (h : Mid lo hi w w') (hs : hi ≤ w'.heap.size) (hg : w'.grownBy w'' row) (hr : ∀ k, row = some k → k < lo ∨ hi ≤ k) : Mid lo hi w w'' := fun k h1 h2 =>
  (hg.block k (by omega) (fun e => by have := hr k e.symm; omega)).trans (h k h1 h2)
theorem Mid.below {lo hi : Nat} {w w' w'' : World} (h : Mid lo hi w w') (hs : hi ≤ w'.heap.size) (hb : Below w'.heap.size w' w'') : Mid lo hi w w'' := fun k h1 h2 =>
  (hb.block k (by omega)).trans (h k h1 h2)
theorem own_mid {lo e sz n : Nat} {w w' : World} {v : Value} {xs : List Value} (h : w.ownsRow lo e sz v n xs) (hm : Mid lo w.heap.size w w') : w'.ownsRow lo e sz v n xs := by
  refine ⟨h.1, h.2.imp id ?_⟩
  rintro ⟨g, cap, cur, h1, h2, h3, h4⟩
  exact ⟨g, cap, cur, h1, h2, (hm g h2 (Array.getElem?_eq_some_iff.1 h3).1).trans h3, h4⟩
end Go.Proofs.Ytbfmdbeeiicabaa
namespace Go.Proofs.Ytbfmdbeeiicabaa
open Go.RowKit L01 L02 L05 L14 L15
/-- the worlds of two stores into a block -/
def wsK (W : World) (g : Nat) (a : Int) (x : Nat) : Nat → World
  | 0 => W.drew
  | 1 => W.drew.setCell ⟨g, 0, none⟩ (.int .i64 a)
  | _ + 2 => (W.drew.setCell ⟨g, 0, none⟩ (.int .i64 a)).setCell ⟨g, 5, none⟩ (.int .u64 x)
theorem stOk_of {l : List UInt64} {k : Nat} {x : UInt64} (hx : l[k]? = some x) : StOk l k ↔ HdOk x ∧ (k : Int) + (split x).size ≤ l.length := by
  unfold StOk
  rw [show l.getD k 0 = x by rw [List.getD_eq_getElem?_getD, hx]; rfl]
set_option maxRecDepth 100000 in
set_option maxHeartbeats 2000000 in
theorem stands_any (v : Value) (l : List UInt64) (k : Nat) (b : Hb) (r : Int) (hk : k < l.length) (hb : b = if StOk l k then stand l k else .none) (hr : r = if StOk l k then 0 else 50) (w : World) (h : Words w v l) :
    Calls Try.prog 93 #[v, .int .i64 k] w fun e w' => e = .returned (.tuple #[.agg #[.int .i64 b.at_, .int .i64 b.size, .int .i64 b.kind, .int .i64 b.ty, .bool b.mark, .int .u64 b.next.toNat], .int .i64 r]) ∧ Below w.heap.size w w' := by
  have B : Below w.heap.size w w := Below.refl _ _
  have H := Lib.hid h
  have hlen := Rd.len_le h
  have lw := Rd.len h Try.underlying22
  obtain ⟨ad, x, ia, m0, hx⟩ := h.at_ (P := Try.prog) Try.underlying22 one_u64 hk
  obtain ⟨N, hN⟩ : ∃ N, N = l.length := ⟨_, rfl⟩
  rw [← hN] at lw hlen
  have hst := stOk_of hx.out
  obtain ⟨s, hs⟩ : ∃ s, s = split x := ⟨_, rfl⟩
  obtain ⟨z, hz⟩ : ∃ z, z = splE x := ⟨_, rfl⟩
  have ST := Lib.hid (fun w => HSplit_any x s z hs hz w)
  have hgk : l.getD k 0 = x := by rw [List.getD_eq_getElem?_getD, hx.out]; rfl
  by_cases hd : HdOk x
  · have hz0 : z = 0 := by rw [hz, splE, if_pos hd]
    subst hz0
    obtain ⟨s1, s2, s3, s4, s5, s6⟩ := (by rw [hs]; exact (split_ok hd).bounds : 2 ≤ s.size ∧ s.size % 2 = 0 ∧ s.size ≤ 1920 ∧ (s.kind = 1 ∨ s.kind = 2) ∧ 0 ≤ s.ty ∧ s.ty < 8)
    have hw : IntKind.i64.wrap ((N : Int) - (k : Int)) = (N : Int) - k := IntWalk.i64_in _ (by omega)
    by_cases hl : (k : Int) + s.size ≤ N
    · have hok : StOk l k := hst.2 ⟨hd, by rw [← hs, ← hN]; exact hl⟩
      obtain ⟨ad2, y, ia2, m1, hy⟩ := h.at_ (P := Try.prog) Try.underlying22 one_u64 (k := k + 1) (by omega)
      have hr0 : r = 0 := by rw [hr, if_pos hok]
      have hb0 : b = ⟨k, s.size, s.kind, s.ty, s.mark, y⟩ := by
        rw [hb, if_pos hok, stand, hgk, ← hs, show l.getD (k + 1) 0 = y by rw [List.getD_eq_getElem?_getD, hy.out]; rfl]
      have hw1 : IntKind.i64.wrap ((k : Int) + 1) = (k : Int) + 1 := IntWalk.i64_in _ (by omega)
      have ia3 : ∀ W, (Instr.indexAt 22 v (.int .i64 ((k : Int) + 1))).run Try.prog W = .ok (.pointer (some ad2)) W := ia2
      have n1 : ¬ ((N : Int) - k < s.size) := by omega
      have n2 : decide ((N : Int) - k < s.size) = false := decide_eq_false n1
      have hs0 : s.at_ = 0 := by rw [hs, split_told hd]; rfl
      have hs5 : s.next = 0 := by rw [hs, split_told hd]; rfl
      obtain ⟨sa, sz, sk, sty, sm, sn⟩ := s
      dsimp only at *
      subst hs0; subst hs5; subst hr0; subst hb0
      have ST' : Hid (∀ w, Calls Try.prog 129 #[.int .u64 x.toNat] w fun e w' => e = .returned (.tuple #[.agg #[.int .i64 0, .int .i64 sz, .int .i64 sk, .int .i64 sty, .bool sm, .int .u64 0], .int .i64 0]) ∧ Below w.heap.size w w') := ST
      have HK := Lib.hid (And.intro hk hN)
      have M0 := Lib.hid m1
      clear hst hs hz hgk hd hl hok hb hr hx hy h ST hk hN
      go_enter Try.func93, Try.ntmps93
      go_upto_region 1 with (fail)
      refine wp_gen (fun Wv => Bx Wv (w.heap.size) (38) (#[.int .i64 0, .int .i64 0, .int .i64 0, .int .i64 0, .bool false, .int .u64 0]) ∧ Below w.heap.size w Wv) ⟨((Bx.at_ (by simp))), ((Below.refl _ w).alloc (by simp <;> omega) _)⟩ ?_
      rintro wa1 ⟨g1, b⟩
      replace m0 := cell_later b m0; replace m1 := cell_later b m1; replace B := B.trans (b.mono B.size); clear b
      have c_g1 := g1.cell; have f_g1 := g1.free; have a_g1 := fun o => (g1.alloc o).cell; have d_g1 := fun o o2 => ((g1.alloc o).alloc o2).cell; have e_g1 := fun o => (g1.alloc o).free
      go_wp2_with fail
      refine (ST'.out _).mono ?_
      rintro e wa2 ⟨rfl, b⟩
      replace m0 := cell_later b m0; replace m1 := cell_later b m1; try clear c_g1 f_g1 a_g1 d_g1 e_g1
      replace g1 := g1.below b; have c_g1 := g1.cell; have f_g1 := g1.free; have a_g1 := fun o => (g1.alloc o).cell; have d_g1 := fun o o2 => ((g1.alloc o).alloc o2).cell; have e_g1 := fun o => (g1.alloc o).free; replace B := B.trans (b.mono B.size); clear b
      have hl1 : w.heap.size < wa2.heap.size := g1.lt
      go_upto_region 2 with (fail)
      refine wp_gen (fun Wv => Bx Wv (wa2.heap.size) (38) (#[.int .i64 0, .int .i64 sz, .int .i64 sk, .int .i64 sty, .bool sm, .int .u64 0]) ∧ Below wa2.heap.size wa2 Wv) ⟨((Bx.at_ (by simp))), ((Below.refl _ wa2).alloc (by simp <;> omega) _)⟩ ?_
      rintro wa3 ⟨g2, b⟩
      replace m0 := cell_later b m0; replace m1 := cell_later b m1; try clear c_g1 f_g1 a_g1 d_g1 e_g1
      replace g1 := g1.below b; have c_g1 := g1.cell; have f_g1 := g1.free; have a_g1 := fun o => (g1.alloc o).cell; have d_g1 := fun o o2 => ((g1.alloc o).alloc o2).cell; have e_g1 := fun o => (g1.alloc o).free; replace B := B.trans (b.mono B.size); clear b
      have c_g2 := g2.cell; have f_g2 := g2.free; have a_g2 := fun o => (g2.alloc o).cell; have d_g2 := fun o o2 => ((g2.alloc o).alloc o2).cell; have e_g2 := fun o => (g2.alloc o).free
      go_upto_region 4 with (fail)
      have hz2 := B.size
      have hp := g2.lt
      have k0 := g2.cell 0; have k5 := (g2.set (i := 0) (.int .i64 (k : Int))).cell 5; have kf := g2.free
      have ne : w.heap.size ≠ wa2.heap.size := by omega
      have A1 : ∀ d, d ≤ 2 → Bx (wsK wa3 wa2.heap.size k y.toNat d) w.heap.size 38 #[.int .i64 0, .int .i64 0, .int .i64 0, .int .i64 0, .bool false, .int .u64 0] := by
        intro d hd
        rcases d with _ | _ | d
        · exact g1
        · exact Bx.far (w := wa3.drew) g1 (p := ⟨wa2.heap.size, 0, none⟩) ne _
        · exact (Bx.far (w := wa3.drew) g1 (p := ⟨wa2.heap.size, 0, none⟩) ne _).far (p := ⟨wa2.heap.size, 5, none⟩) ne _
      have BW : ∀ d, d ≤ 2 → Below w.heap.size w (wsK wa3 wa2.heap.size k y.toNat d) := by
        intro d hd
        rcases d with _ | _ | d
        · exact B.drew
        · exact (B.drew).setCell (p := ⟨wa2.heap.size, 0, none⟩) (by show w.heap.size ≤ wa2.heap.size; omega) _
        · exact ((B.drew).setCell (p := ⟨wa2.heap.size, 0, none⟩) (by show w.heap.size ≤ wa2.heap.size; omega) _).setCell (p := ⟨wa2.heap.size, 5, none⟩) (by show w.heap.size ≤ wa2.heap.size; omega) _
      have BX : ∀ d, d ≤ 2 → Below wa3.heap.size wa3 (wsK wa3 wa2.heap.size k y.toNat d) → True := fun _ _ _ => trivial
      have M1 : ∀ d, d ≤ 2 → (wsK wa3 wa2.heap.size k y.toNat d).cell? ad2 = some (.int .u64 y.toNat) := by
        intro d hd
        exact cell_later (BW d hd) M0.out
      have G2 : Bx (wsK wa3 wa2.heap.size k y.toNat 2) wa2.heap.size 38 #[.int .i64 k, .int .i64 sz, .int .i64 sk, .int .i64 sty, .bool sm, .int .u64 y.toNat] :=
        ((Bx.set (w := wa3.drew) g2 (i := 0) (.int .i64 (k : Int))).set (i := 5) (.int .u64 y.toNat))
      have a1 := fun x : FXN (FL [7, 9] (wsK wa3 wa2.heap.size k y.toNat) 7 2) => (FL.all (ks := [7, 9]) (Ws := wsK wa3 wa2.heap.size k y.toNat) (p := fun V => V.cell? ad2 = some (.int .u64 y.toNat)) M1 x)
      have HX := Lib.hid (And.intro (A1 2 (by omega)) (And.intro G2 (BW 2 (by omega))))
      have s0 : wa3.cell? ⟨wa2.heap.size, 0, none⟩ = some (.int .i64 0) := g2.cell 0
      have s1 : ∀ i, wa3.frozen? ⟨wa2.heap.size, i, none⟩ = false := g2.free
      have s2 : (wa3.setCell ⟨wa2.heap.size, 0, none⟩ (.int .i64 k)).cell? ⟨wa2.heap.size, 5, none⟩ = some (.int .u64 0) := (g2.set (i := 0) (.int .i64 (k : Int))).cell 5
      clear A1 BW BX M1 G2 k0 k5 kf c_g1 f_g1 a_g1 d_g1 e_g1 c_g2 f_g2 a_g2 d_g2 e_g2 m0 m1
      haveI : Nonempty (FXN (FL [7, 9] (wsK wa3 wa2.heap.size k y.toNat) 7 2)) := ⟨⟨_, _, FL.start⟩⟩
      refine wp_region_N (FL [7, 9] (wsK wa3 wa2.heap.size k y.toNat) 7 2) [7, 7, 9] FL.dep (by kernel_rfl) (by kernel_rfl) (by kernel_rfl) FL.start ?_
      iterate 7 (refine wpN_read FL.dep rfl (by decide) ?_; go_big_quiet_step (fail); refine wpQuiet_nil ?_)
      refine wpN_storeD FL.dep rfl 3 (.tmp 34) (.tmp 28) rfl (by rfl) (p := .pointer (some ⟨wa2.heap.size, 0, none⟩)) (u := .int .i64 k) (by rfl) (by rfl) [] (by kernel_rfl) (fun f W' hF h0 h1 => ?_) ?_
      · obtain ⟨rfl, h2⟩ := FL.step (i := 0) rfl (by decide) hF h0 (by intro p hp; omega) (by omega)
        refine ⟨_, ?_, h2⟩
        simp [go_sem, wsK, s0, s1]
      simp only [Act.put, List.setIfInBounds_toArray, List.set_cons_zero, List.set_cons_succ]
      iterate 1 (refine wpN_read FL.dep rfl (by decide) ?_; go_big_quiet_step (fail); refine wpQuiet_nil ?_)
      refine wpN_storeD FL.dep rfl 34 (.tmp 35) (.tmp 33) rfl (by rfl) (p := .pointer (some ⟨wa2.heap.size, 5, none⟩)) (u := .int .u64 y.toNat) (by rfl) (by rfl) [7] (by kernel_rfl) (fun f W' hF h0 h1 => ?_) ?_
      · obtain ⟨rfl, h2⟩ := FL.step (i := 1) rfl (by decide) hF h0 (FL.prev rfl (h1 7 (by simp))) (by omega)
        refine ⟨_, ?_, h2⟩
        simp [go_sem, wsK, s2, s1]
      simp only [Act.put, List.setIfInBounds_toArray, List.set_cons_zero, List.set_cons_succ]
      show ∀ w', _ → _
      intro w' hw'
      obtain rfl := FL.done hw'
      clear a1 s0 s1 s2 hw'
      have hW : wsK wa3 wa2.heap.size k y.toNat ([7, 9] : List Nat).length = wsK wa3 wa2.heap.size k y.toNat 2 := rfl
      rw [hW]
      generalize wsK wa3 wa2.heap.size k y.toNat 2 = V at HX ⊢
      obtain ⟨g1, g2, B⟩ := HX.out
      have c_g1 := g1.cell; have c_g2 := g2.cell; have f_g1 := g1.free; have f_g2 := g2.free
      go_wp2
      refine bodyPost_ret (v := .tuple #[.agg #[.int .i64 k, .int .i64 sz, .int .i64 sk, .int .i64 sty, .bool sm, .int .u64 y.toNat], .int .i64 0]) (by simp [results, Try.results93, go_sem, c_g1, c_g2, f_g1, f_g2, ne]) rfl ?_
      refine ⟨rfl, ?_⟩
      (repeat (first | refine Below.setCell ?_ (by first | exact Nat.le_refl _ | (simp <;> omega)) _ | refine Below.alloc ?_ (by first | exact B.size | (have := B.size; simp <;> omega)) _)); exact B
    · have hno : ¬ StOk l k := fun h => hl (by have := (hst.1 h).2; rw [← hs, ← hN] at this; exact this)
      have hr0 : r = 50 := by rw [hr, if_neg hno]
      have hb0 : b = .none := by rw [hb, if_neg hno]
      have n1 : (N : Int) - k < s.size := by omega
      subst hr0; subst hb0
      clear hst hs hz hgk hd hl hno hb hr hx h hN hk
      go_enter Try.func93, Try.ntmps93
      go_upto_region 1 with (fail)
      refine wp_gen (fun Wv => Bx Wv (w.heap.size) (38) (#[.int .i64 0, .int .i64 0, .int .i64 0, .int .i64 0, .bool false, .int .u64 0]) ∧ Below w.heap.size w Wv) ⟨((Bx.at_ (by simp))), ((Below.refl _ w).alloc (by simp <;> omega) _)⟩ ?_
      rintro wa1 ⟨g1, b⟩
      replace m0 := cell_later b m0; replace B := B.trans (b.mono B.size); clear b
      have c_g1 := g1.cell; have f_g1 := g1.free; have a_g1 := fun o => (g1.alloc o).cell; have d_g1 := fun o o2 => ((g1.alloc o).alloc o2).cell; have e_g1 := fun o => (g1.alloc o).free
      go_wp2_with fail
      refine (ST.out _).mono ?_
      rintro e wa2 ⟨rfl, b⟩
      replace m0 := cell_later b m0; try clear c_g1 f_g1 a_g1 d_g1 e_g1
      replace g1 := g1.below b; have c_g1 := g1.cell; have f_g1 := g1.free; have a_g1 := fun o => (g1.alloc o).cell; have d_g1 := fun o o2 => ((g1.alloc o).alloc o2).cell; have e_g1 := fun o => (g1.alloc o).free; replace B := B.trans (b.mono B.size); clear b
      go_upto_region 2 with (fail)
      refine wp_gen (fun Wv => Bx Wv (wa2.heap.size) (38) (#[.int .i64 s.at_, .int .i64 s.size, .int .i64 s.kind, .int .i64 s.ty, .bool s.mark, .int .u64 s.next.toNat]) ∧ Below wa2.heap.size wa2 Wv) ⟨((Bx.at_ (by simp))), ((Below.refl _ wa2).alloc (by simp <;> omega) _)⟩ ?_
      rintro wa3 ⟨g2, b⟩
      replace m0 := cell_later b m0; try clear c_g1 f_g1 a_g1 d_g1 e_g1
      replace g1 := g1.below b; have c_g1 := g1.cell; have f_g1 := g1.free; have a_g1 := fun o => (g1.alloc o).cell; have d_g1 := fun o o2 => ((g1.alloc o).alloc o2).cell; have e_g1 := fun o => (g1.alloc o).free; replace B := B.trans (b.mono B.size); clear b
      have c_g2 := g2.cell; have f_g2 := g2.free; have a_g2 := fun o => (g2.alloc o).cell; have d_g2 := fun o o2 => ((g2.alloc o).alloc o2).cell; have e_g2 := fun o => (g2.alloc o).free
      go_wp2
      refine bodyPost_ret (v := .tuple #[.agg #[.int .i64 0, .int .i64 0, .int .i64 0, .int .i64 0, .bool false, .int .u64 0], .int .i64 50]) (by simp [results, Try.results93, go_sem, c_g1, f_g1, a_g1, e_g1, c_g2, f_g2, a_g2, e_g2]) rfl ?_
      refine ⟨rfl, ?_⟩
      (repeat (first | refine Below.setCell ?_ (by first | exact Nat.le_refl _ | (simp <;> omega)) _ | refine Below.alloc ?_ (by first | exact B.size | (have := B.size; simp <;> omega)) _)); exact B
  · have hz0 : z = 50 := by rw [hz, splE, if_neg hd]
    have hno : ¬ StOk l k := fun h => hd (hst.1 h).1
    have hr0 : r = 50 := by rw [hr, if_neg hno]
    have hb0 : b = .none := by rw [hb, if_neg hno]
    subst hr0; subst hb0; subst hz0
    clear hst hs hz hgk hd hno hb hr hx h hN hk
    go_enter Try.func93, Try.ntmps93
    go_upto_region 1 with (fail)
    refine wp_gen (fun Wv => Bx Wv (w.heap.size) (38) (#[.int .i64 0, .int .i64 0, .int .i64 0, .int .i64 0, .bool false, .int .u64 0]) ∧ Below w.heap.size w Wv) ⟨((Bx.at_ (by simp))), ((Below.refl _ w).alloc (by simp <;> omega) _)⟩ ?_
    rintro wa1 ⟨g1, b⟩
    replace m0 := cell_later b m0; replace B := B.trans (b.mono B.size); clear b
    have c_g1 := g1.cell; have f_g1 := g1.free; have a_g1 := fun o => (g1.alloc o).cell; have d_g1 := fun o o2 => ((g1.alloc o).alloc o2).cell; have e_g1 := fun o => (g1.alloc o).free
    go_wp2_with fail
    refine (ST.out _).mono ?_
    rintro e wa2 ⟨rfl, b⟩
    replace m0 := cell_later b m0; try clear c_g1 f_g1 a_g1 d_g1 e_g1
    replace g1 := g1.below b; have c_g1 := g1.cell; have f_g1 := g1.free; have a_g1 := fun o => (g1.alloc o).cell; have d_g1 := fun o o2 => ((g1.alloc o).alloc o2).cell; have e_g1 := fun o => (g1.alloc o).free; replace B := B.trans (b.mono B.size); clear b
    go_upto_region 2 with (fail)
    refine wp_gen (fun Wv => Bx Wv (wa2.heap.size) (38) (#[.int .i64 s.at_, .int .i64 s.size, .int .i64 s.kind, .int .i64 s.ty, .bool s.mark, .int .u64 s.next.toNat]) ∧ Below wa2.heap.size wa2 Wv) ⟨((Bx.at_ (by simp))), ((Below.refl _ wa2).alloc (by simp <;> omega) _)⟩ ?_
    rintro wa3 ⟨g2, b⟩
    replace m0 := cell_later b m0; try clear c_g1 f_g1 a_g1 d_g1 e_g1
    replace g1 := g1.below b; have c_g1 := g1.cell; have f_g1 := g1.free; have a_g1 := fun o => (g1.alloc o).cell; have d_g1 := fun o o2 => ((g1.alloc o).alloc o2).cell; have e_g1 := fun o => (g1.alloc o).free; replace B := B.trans (b.mono B.size); clear b
    have c_g2 := g2.cell; have f_g2 := g2.free; have a_g2 := fun o => (g2.alloc o).cell; have d_g2 := fun o o2 => ((g2.alloc o).alloc o2).cell; have e_g2 := fun o => (g2.alloc o).free
    go_wp2
    refine bodyPost_ret (v := .tuple #[.agg #[.int .i64 0, .int .i64 0, .int .i64 0, .int .i64 0, .bool false, .int .u64 0], .int .i64 50]) (by simp [results, Try.results93, go_sem, c_g1, f_g1, a_g1, e_g1, c_g2, f_g2, a_g2, e_g2]) rfl ?_
    refine ⟨rfl, ?_⟩
    (repeat (first | refine Below.setCell ?_ (by first | exact Nat.le_refl _ | (simp <;> omega)) _ | refine Below.alloc ?_ (by first | exact B.size | (have := B.size; simp <;> omega)) _)); exact B
end Go.Proofs.Ytbfmdbeeiicabaa
namespace Go.Proofs.Ytbfmdbeeiicabaa
open Go.RowKit L01 L02 L05 L14 L15
theorem map_append_cons {o : Option (List Hb)} {L0 : List Hb} {b : Hb} : (o.map (b :: ·)).map (L0 ++ ·) = o.map ((L0 ++ [b]) ++ ·) := by
  cases o <;> simp
set_option maxRecDepth 100000 in
set_option maxHeartbeats 2000000 in
theorem From_any (v : Value) (l : List UInt64) (a : Int) (L : List Hb) (r : Int) (hL : L = fromL l a) (hr : r = fromErr l a) (w : World) (h : Words w v l) :
    Calls Try.prog 51 #[v, .int .i64 a] w fun e w' => ∃ x, e = .returned (.tuple #[x, .int .i64 r]) ∧ OwnK w' w.heap.size x L ∧ Below w.heap.size w w' := by
  have B : Below w.heap.size w w := Below.refl _ _
  have H := Lib.hid h
  have hlen := Rd.len_le h
  have lw := Rd.len h Try.underlying22
  obtain ⟨c, hc⟩ : ∃ c, c = chk l := ⟨_, rfl⟩
  have CT : Hid (∀ w, Words w v l → Calls Try.prog 55 #[v] w fun e w' => e = .returned (.int .i64 c) ∧ w = w') := by rw [hc]; exact Lib.hid (fun w h => Check_any v l w h)
  by_cases hs : SizeOk l.length
  case neg =>
    have hr0 : r = 8 := by rw [hr, fromErr, if_neg hs]
    have hL0 : L = [] := by rw [hL, fromL, ← hr, hr0]; rfl
    have hc8 : c = 8 := by rw [hc, chk_no hs]
    subst hr0; subst hL0; subst hc8
    clear hr hL hs hc h lw hlen
    go_enter Try.func51, Try.ntmps51
    go_wp2_with fail
    refine (CT.out _ (H.out.below B)).mono ?_
    rintro e w' ⟨rfl, rfl⟩
    go_wp2
    go_ret2
    exact ⟨_, rfl, OwnK.nil _ _, B⟩
  case pos =>
    have hc0 : c = 0 := by rw [hc, chk_ok hs]
    subst hc0
    obtain ⟨N, hN⟩ : ∃ N, N = l.length := ⟨_, rfl⟩
    rw [← hN] at lw hlen
    have hs2 := hs
    rw [← hN] at hs2
    obtain ⟨hn1, hn2, hn3⟩ := hs2
    by_cases hin : 128 ≤ a ∧ a ≤ N ∧ a % 2 = 0
    case neg =>
      have hr0 : r = 2 := by rw [hr, fromErr, if_pos hs, if_neg (by rw [← hN]; exact hin)]
      have hL0 : L = [] := by rw [hL, fromL, ← hr, hr0]; rfl
      subst hr0; subst hL0
      have hcase : a < 128 ∨ (128 ≤ a ∧ (N : Int) < a) ∨ (128 ≤ a ∧ a ≤ (N : Int) ∧ (a % 2 != 0) = true) := by
        by_cases h1 : a < 128
        · exact .inl h1
        · by_cases h2 : (N : Int) < a
          · exact .inr (.inl ⟨by omega, h2⟩)
          · exact .inr (.inr ⟨by omega, by omega, by rw [bne_iff_ne]; omega⟩)
      clear hr hL hs hc h hin hN
      rcases hcase with h1 | ⟨h0, h1⟩ | ⟨h0, h1, h2⟩
      all_goals
        go_enter Try.func51, Try.ntmps51
        go_wp2_with fail
        refine (CT.out _ (H.out.below B)).mono ?_
        rintro e w' ⟨rfl, rfl⟩
        go_wp2
        go_ret2
        exact ⟨_, rfl, OwnK.nil _ _, B⟩
    case pos =>
      obtain ⟨h1, h2, h3⟩ := hin
      obtain ⟨k, rfl⟩ := Int.eq_ofNat_of_zero_le (show 0 ≤ a by omega)
      have hre : r = if (from_ l k).isSome then 0 else 50 := by rw [hr, fromErr, if_pos hs, if_pos (by rw [← hN]; exact ⟨h1, h2, h3⟩), Int.toNat_natCast]
      have hLe : L = (from_ l k).getD [] := by
        rw [hL, fromL, ← hr, hre, Int.toNat_natCast]
        cases from_ l k with
        | none => rfl
        | some M => rfl
      have n1 : ¬ (k : Int) < 128 := by omega
      have n2 : ¬ (N : Int) < (k : Int) := by omega
      have n4 : decide ((k : Int) < 128) = false := decide_eq_false n1
      have n5 : decide (N < k) = false := decide_eq_false (by omega)
      have n6 : ¬ N < k := by omega
      have n3 : (k : Int).tmod 2 = 0 := by rw [Int.tmod_eq_emod_of_nonneg (by omega)]; omega
      have HR := Lib.hid (And.intro hre hLe); have HN := Lib.hid hN
      have hkN : k ≤ N := by omega
      clear hr hL hs hc h hre hLe h1 h2 h3 hN
      go_enter Try.func51, Try.ntmps51
      go_wp2_with fail
      refine (CT.out _ (H.out.below B)).mono ?_
      rintro e w' ⟨rfl, rfl⟩
      go_wp2
      have HB := Lib.hid B; clear B
      go_loopg [1, 7] (N - k) (fun g i xv wr => ∃ (q : Nat) (L0 : List Hb), q ≤ N ∧ g = N - q ∧ i = .int .i64 q ∧ Hid (OwnK wr w.heap.size xv L0 ∧ from_ l k = (from_ l q).map (L0 ++ ·) ∧ 2 * L0.length ≤ q ∧ Below w.heap.size w wr))
      case atStart => exact ⟨k, [], hkN, rfl, rfl, Lib.hid ⟨OwnK.nil _ _, by cases from_ l k <;> rfl, by simp, HB.out⟩⟩
      case round =>
        obtain ⟨q, L0, hq, rfl, rfl, hh⟩ := hrel
        clear HB
        by_cases hlt : q < N
        · by_cases hso : StOk l q
          · obtain ⟨b, hb⟩ : ∃ b, b = stand l q := ⟨_, rfl⟩
            have ST := Lib.hid (fun w h => stands_any v l q b 0 (by rw [← HN.out]; exact hlt) (by rw [if_pos hso, hb]) (by rw [if_pos hso]) w h)
            have hsz := szN_ge hso
            have hbs : b.size = (szN l q : Int) := by rw [hb]; exact stand_size hso
            have hst := from_step (by rw [← HN.out]; exact hlt) hso
            rw [← hb] at hst
            obtain ⟨z, hz⟩ : ∃ z, z = szN l q := ⟨_, rfl⟩
            rw [← hz] at hsz hbs hst
            rw [← HN.out] at hsz
            obtain ⟨hz1, -, -, hz4, -⟩ := hsz
            have o1 := hh.out.1
            have B := hh.out.2.2.2
            have hl0 := hh.out.2.2.1
            have hfr := hh.out.2.1
            rw [hst, map_append_cons] at hfr
            have HF := Lib.hid hfr
            have hB0 := B.size
            have hwq : IntKind.i64.wrap ((q : Int) + b.size) = ((q + z : Nat) : Int) := by rw [hbs, show ((q + z : Nat) : Int) = (q : Int) + z by omega]; exact IntWalk.i64_in _ (by omega)
            have HZ := Lib.hid (And.intro hz1 hz4)
            clear hb hst hfr hz hbs hso
            go_wp2_with fail
            refine (ST.out _ (H.out.below B)).mono ?_
            rintro e wa1 ⟨rfl, b⟩
            replace o1 := o1.below b; replace B := B.trans (b.mono B.size); clear b
            have hne := own_fresh o1
            go_upto_region 9 with (fail)
            refine wp_gen (fun Wv => Bx Wv (wa1.heap.size) (38) (#[.int .i64 b.at_, .int .i64 b.size, .int .i64 b.kind, .int .i64 b.ty, .bool b.mark, .int .u64 b.next.toNat]) ∧ Below wa1.heap.size wa1 Wv) ⟨((Bx.at_ (by simp))), ((Below.refl _ wa1).alloc (by simp <;> omega) _)⟩ ?_
            rintro wa2 ⟨g2, b⟩
            replace o1 := o1.below b; replace B := B.trans (b.mono B.size); clear b
            have c_g2 := g2.cell; have f_g2 := g2.free; have a_g2 := fun o => (g2.alloc o).cell; have d_g2 := fun o o2 => ((g2.alloc o).alloc o2).cell; have e_g2 := fun o => (g2.alloc o).free
            clear f_g2 a_g2 d_g2 e_g2
            go_wp2_with (at_builtin; refine wpList_append (by rfl) rfl rfl rfl Try.underlying26 info_block rfl (by omega) (by exact own_below o1 ((Below.refl _ _).alloc (Nat.le_refl _) _)) (by exact lit_block b (by simp)) (bkL_one b) (by omega) (by omega) (by exact B.alloc B.size _) (Nat.le_refl _) ?_; intro v1 w3 o3 B3 g3; have c_4 := ((g2.alloc _).grown g3 hne).cell; clear c_g2)
            have o4 : OwnK w3 w.heap.size v1 (L0 ++ [b]) := OwnK.of o3 (tabB_snoc L0 b)
            have HO := Lib.hid (And.intro o4 B3)
            go_roundg (N - (q + z))
            case measure => have := HZ.out.1; omega
            case rel => exact ⟨q + z, L0 ++ [b], by have := HZ.out.2; omega, rfl, rfl, Lib.hid ⟨HO.out.1, HF.out, by have := HZ.out.1; simp only [List.length_append, List.length_cons, List.length_nil]; omega, HO.out.2⟩⟩
          · have ST := Lib.hid (fun w h => stands_any v l q .none 50 (by rw [← HN.out]; exact hlt) (by rw [if_neg hso]) (by rw [if_neg hso]) w h)
            have hno := from_no (by rw [← HN.out]; exact hlt) hso
            have hfr := hh.out.2.1
            rw [hno] at hfr
            have hr0 : r = 50 := by rw [HR.out.1, hfr]; rfl
            have hL0 : L = [] := by rw [HR.out.2, hfr]; rfl
            subst hr0; subst hL0
            have B := hh.out.2.2.2
            clear hso hno hfr
            go_wp2_with fail
            refine (ST.out _ (H.out.below B)).mono ?_
            rintro e wa3 ⟨rfl, b⟩
            replace B := B.trans (b.mono B.size); clear b
            go_wp2
            go_ret2
            refine ⟨_, rfl, OwnK.nil _ _, ?_⟩
            (repeat (first | refine Below.setCell ?_ (by first | exact Nat.le_refl _ | (simp <;> omega)) _ | refine Below.alloc ?_ (by first | exact B.size | (have := B.size; simp <;> omega)) _)); exact B
        · obtain rfl : q = N := by omega
          have hfr := hh.out.2.1
          rw [show from_ l q = some [] by rw [HN.out]; exact from_end] at hfr
          have hr0 : r = 0 := by rw [HR.out.1, hfr]; rfl
          have hL0 : L = L0 := by rw [HR.out.2, hfr]; simp
          subst hr0; subst hL0
          have o1 := hh.out.1
          have B := hh.out.2.2.2
          clear hfr
          go_wp2
          go_ret2
          exact ⟨_, rfl, o1, B⟩
end Go.Proofs.Ytbfmdbeeiicabaa
namespace Go.Proofs.Ytbfmdbeeiicabaa
open Go.RowKit L01 L02 L05 L14 L15
/-- no two free extents side by side among the first j blocks -/
def NoAdj (L : List Hb) (j : Nat) : Prop := ∀ (i : Nat) (a b : Hb), i + 1 < j → L[i]? = some a → L[i + 1]? = some b → ¬ (a.kind = 2 ∧ b.kind = 2)
theorem noAdj_all {L : List Hb} (h : NoAdj L L.length) : ¬ Adj L := fun ha => by
  obtain ⟨i, a, b, h1, h2, h3, h4⟩ := adj_iff.1 ha
  exact h i a b (List.getElem?_eq_some_iff.1 h2).1 h1 h2 ⟨h3, h4⟩
theorem noAdj_step {L : List Hb} {j : Nat} (h : NoAdj L j) (h2 : ∀ (i : Nat) (a b : Hb), j = i + 1 → L[i]? = some a → L[i + 1]? = some b → ¬ (a.kind = 2 ∧ b.kind = 2)) : NoAdj L (j + 1) := fun i a b hi h3 h4 => by
  by_cases e : i + 1 = j
  · exact h2 i a b e.symm h3 h4
  · exact h i a b (by omega) h3 h4
theorem adj_at {L : List Hb} {i : Nat} {a b : Hb} (h1 : L[i]? = some a) (h2 : L[i + 1]? = some b) (h3 : a.kind = 2) (h4 : b.kind = 2) : Adj L := adj_iff.2 ⟨i, a, b, h1, h2, h3, h4⟩
theorem from128 {l : List UInt64} (hs : SizeOk l.length) : fromErr l 128 = if (from_ l 128).isSome then 0 else 50 := by
  have e : (128 : Int).toNat = 128 := rfl
  rw [fromErr, if_pos hs, if_pos (by have := hs.1; omega), e]
theorem fromL128 {l : List UInt64} {M : List Hb} (hs : SizeOk l.length) (hf : from_ l 128 = some M) : fromL l 128 = M := by
  have e : (128 : Int).toNat = 128 := rfl
  rw [fromL, if_pos (by rw [from128 hs, hf, if_pos Option.isSome_some]), e, hf]; rfl
theorem parsed_none {l : List UInt64} (hf : from_ l 128 = none) : parsed l = none := by
  unfold parsed
  generalize from_ l 128 = x at *
  subst hf; rfl
theorem parsed_some {l : List UInt64} {M : List Hb} (hf : from_ l 128 = some M) : parsed l = if Adj M then none else some M := by
  unfold parsed
  generalize from_ l 128 = x at *
  subst hf; rfl
set_option maxRecDepth 100000 in
set_option maxHeartbeats 2000000 in
theorem AllW_any (v : Value) (l : List UInt64) (L : List Hb) (r : Int) (hL : L = allL l) (hr : r = allErr l) (w : World) (h : Words w v l) :
    Calls Try.prog 15 #[v] w fun e w' => ∃ x, e = .returned (.tuple #[x, .int .i64 r]) ∧ OwnK w' w.heap.size x L ∧ Below w.heap.size w w' := by
  have B : Below w.heap.size w w := Below.refl _ _
  have H := Lib.hid h
  obtain ⟨L0, hL0⟩ : ∃ L0, L0 = fromL l 128 := ⟨_, rfl⟩
  obtain ⟨r0, hr0⟩ : ∃ r0, r0 = fromErr l 128 := ⟨_, rfl⟩
  have FT := Lib.hid (fun w h => From_any v l 128 L0 r0 hL0 hr0 w h)
  by_cases h0 : r0 = 0
  case neg =>
    have hn : (r0 != 0) = true := by rw [bne_iff_ne]; exact h0
    have hre : r = r0 := by
      rw [hr, allErr]
      by_cases hs : SizeOk l.length
      · rw [if_pos hs]
        rw [from128 hs] at hr0
        cases hf : from_ l 128 with
        | none => rw [hf, if_neg (by simp)] at hr0; rw [hr0, parsed_none hf, if_neg (by simp)]
        | some M => rw [hf, if_pos Option.isSome_some] at hr0; exact absurd hr0 h0
      · rw [if_neg hs, hr0, fromErr, if_neg hs]
    have hL1 : L = [] := by rw [hL, allL, ← hr, hre, if_neg h0]
    subst hL1; subst hre
    clear hL hr hL0 hr0 h h0
    go_enter Try.func15, Try.ntmps15
    go_wp2_with fail
    refine (FT.out _ (H.out.below B)).mono ?_
    rintro e wa1 ⟨x1, rfl, o1, b⟩
    replace B := B.trans (b.mono B.size); clear b
    go_wp2
    go_ret2
    exact ⟨_, rfl, OwnK.nil _ _, B⟩
  case pos =>
    have hs : SizeOk l.length := by
      rw [h0] at hr0
      by_cases hs : SizeOk l.length
      · exact hs
      · rw [fromErr, if_neg hs] at hr0; omega
    have hf : from_ l 128 = some L0 := by
      rw [h0, from128 hs] at hr0
      cases hf : from_ l 128 with
      | none => rw [hf, if_neg (by simp)] at hr0; omega
      | some M => rw [hL0, fromL128 hs hf]
    have hre : r = if Adj L0 then 50 else 0 := by
      rw [hr, allErr, if_pos hs, parsed_some hf]
      by_cases ha : Adj L0 <;> simp [ha]
    have hLe : L = if Adj L0 then [] else L0 := by
      rw [hL, allL, ← hr, hre, parsed_some hf]
      by_cases ha : Adj L0 <;> simp [ha]
    have HR := Lib.hid (And.intro hre hLe)
    subst h0
    obtain ⟨N, hN⟩ : ∃ N, N = L0.length := ⟨_, rfl⟩
    have HN := Lib.hid hN
    clear hL hr hL0 hr0 h hs hf hre hLe
    go_enter Try.func15, Try.ntmps15
    go_wp2_with fail
    refine (FT.out _ (H.out.below B)).mono ?_
    rintro e wa1 ⟨x1, rfl, o1, b⟩
    replace B := B.trans (b.mono B.size); clear b
    have lx := o1.rd.len
    have hlen := o1.rd.len_le
    rw [← hN] at lx hlen
    clear hN
    go_wp2
    go_loopg [17] N (fun g i wr => ∃ j : Nat, j ≤ N ∧ g = N - j ∧ i = .int .i64 j ∧ wr = wa1 ∧ Hid (NoAdj L0 j))
    case atStart => exact ⟨0, by omega, by omega, rfl, rfl, Lib.hid (fun i a b h1 => by omega)⟩
    case round =>
      obtain ⟨j, hj, rfl, rfl, rfl, hna⟩ := hrel
      by_cases hlt : j < N
      · obtain ⟨bb, oo, s, ia, _, _, m0, _, _, _, hs, _⟩ := o1.rd.at_ (k := j) (by rw [← HN.out]; exact hlt)
        rcases j with _ | i
        · have n1 : ¬ (0 : Int) < ((0 : Nat) : Int) := by omega
          go_wp2
          go_roundg (N - 1)
          case measure => omega
          case rel => exact ⟨1, by omega, rfl, by go_num, rfl, Lib.hid (noAdj_step hna.out (fun i a b h1 => by omega))⟩
        · obtain ⟨b2, o2, t, ia2, _, _, m1, _, _, _, ht, _⟩ := o1.rd.at_ (k := i) (by rw [← HN.out]; omega)
          have ia3 : ∀ W, (Instr.indexAt 26 x1 (.int .i64 ((i : Int) + 1))).run Try.prog W = .ok (.pointer (some ⟨bb, oo, none⟩)) W := ia
          have hw : IntKind.i64.wrap ((i : Int) + 1 - 1) = (i : Int) := by rw [show (i : Int) + 1 - 1 = (i : Int) by omega]; exact IntWalk.i64_in _ (by omega)
          have hw2 : IntKind.i64.wrap (i : Int) = (i : Int) := IntWalk.i64_in _ (by omega)
          have n1 : (0 : Int) < (i : Int) + 1 := by omega
          by_cases hk : t.kind = 2 ∧ s.kind = 2
          · have ha := adj_at ht.out hs.out hk.1 hk.2
            have hr0 : r = 50 := by rw [HR.out.1, if_pos ha]
            have hL0 : L = [] := by rw [HR.out.2, if_pos ha]
            rw [hk.2] at m0; rw [hk.1] at m1
            subst hr0; subst hL0
            clear hk ha
            go_wp2
            go_ret2
            exact ⟨_, rfl, OwnK.nil _ _, B⟩
          · have hna2 : NoAdj L0 (i + 1 + 1) := noAdj_step hna.out (fun i' a b h1 h2 h3 => by
              obtain rfl : i' = i := by omega
              rw [ht.out] at h2; rw [hs.out] at h3
              injection h2 with h2; injection h3 with h3; subst h2; subst h3; exact hk)
            have HNA := Lib.hid hna2; clear hna2
            by_cases hs2 : s.kind = 2
            · have ht2 : (t.kind == 2) = false := by rw [beq_eq_false_iff_ne]; exact fun e => hk ⟨e, hs2⟩
              rw [hs2] at m0
              clear hk hs2
              go_wp2
              go_roundg (N - (i + 1 + 1))
              case measure => omega
              case rel => exact ⟨i + 1 + 1, by omega, rfl, by go_num, rfl, HNA⟩
            · have ht2 : (s.kind == 2) = false := by rw [beq_eq_false_iff_ne]; exact hs2
              clear hk hs2
              go_wp2
              go_roundg (N - (i + 1 + 1))
              case measure => omega
              case rel => exact ⟨i + 1 + 1, by omega, rfl, by go_num, rfl, HNA⟩
      · obtain rfl : j = N := by omega
        have ha : ¬ Adj L0 := noAdj_all (by rw [← HN.out]; exact hna.out)
        have hr0 : r = 0 := by rw [HR.out.1, if_neg ha]
        have hL0 : L = L0 := by rw [HR.out.2, if_neg ha]
        subst hr0; subst hL0
        clear ha
        go_wp2
        go_ret2
        exact ⟨_, rfl, o1, B⟩
end Go.Proofs.Ytbfmdbeeiicabaa
namespace Go.Proofs.Ytbfmdbeeiicabaa
open Go.RowKit L01 L02 L05 L14 L15
end Go.Proofs.Ytbfmdbeeiicabaa
namespace Go.Proofs.Ytbfmdbeeiicabaa.L06
open L02 L05
def SupOk (W T : Int) : Prop := SizeOk W ∧ 0 ≤ T ∧ T ≤ 8
instance (W T : Int) : Decidable (SupOk W T) := inferInstanceAs (Decidable (SizeOk W ∧ 0 ≤ T ∧ T ≤ 8))
def magic : UInt64 := 32777959566500194
def u (n : Int) : UInt64 := UInt64.ofNat n.toNat
def body (W T : Int) : List UInt64 := [magic, 1, u W, u T, 0, 0, 0]
def wordsOf (W T : Int) : List UInt64 := body W T ++ [sum (body W T)]
def write (W T : Int) : List UInt64 := if SupOk W T then wordsOf W T else []
def at2 (l : List UInt64) : Int := (l.getD 2 0).toNat
def at3 (l : List UInt64) : Int := (l.getD 3 0).toNat
def ReadOk (l : List UInt64) : Prop := SupOk (at2 l) (at3 l) ∧ l = wordsOf (at2 l) (at3 l)
instance (l : List UInt64) : Decidable (ReadOk l) := inferInstanceAs (Decidable (SupOk (at2 l) (at3 l) ∧ l = wordsOf (at2 l) (at3 l)))
def rdW (l : List UInt64) : Int := if ReadOk l then at2 l else 0
def rdT (l : List UInt64) : Int := if ReadOk l then at3 l else 0
def rdErr (l : List UInt64) : Int := if l.length = 8 then (if ReadOk l then 0 else 50) else 2
theorem u_nat {n : Int} (h0 : 0 ≤ n) (h1 : n < 18446744073709551616) : ((u n).toNat : Int) = n := by
  unfold u; rw [UInt64.toNat_ofNat', Nat.mod_eq_of_lt (by omega)]; omega
theorem readOk_len {l : List UInt64} (h : ReadOk l) : l.length = 8 := by rw [h.2]; rfl
theorem rd_no {l : List UInt64} (h : ¬ ReadOk l) : rdW l = 0 ∧ rdT l = 0 := ⟨if_neg h, if_neg h⟩
/-! ### the sum tells one byte -/
end Go.Proofs.Ytbfmdbeeiicabaa.L06
namespace Go.Proofs.Ytbfmdbeeiicabaa.L07
open L02 L05 L06
def c0 (m : List UInt64) : List UInt64 := m.take 8
def c1 (m : List UInt64) : List UInt64 := (m.drop 8).take 8
def CopyOk (n : Nat) (l : List UInt64) : Prop := ReadOk l ∧ at2 l = (n : Int)
instance (n : Nat) (l : List UInt64) : Decidable (CopyOk n l) := inferInstanceAs (Decidable (ReadOk l ∧ at2 l = (n : Int)))
def is0 (m : List UInt64) : Bool := decide (SizeOk m.length ∧ CopyOk m.length (c0 m))
def is1 (m : List UInt64) : Bool := decide (SizeOk m.length ∧ CopyOk m.length (c1 m))
def rErr (m : List UInt64) : Int := if SizeOk m.length then (if is0 m = true ∨ is1 m = true then 0 else 50) else 8
/-- the copy that counts -/
def one (m : List UInt64) : List UInt64 := if is0 m = true then c0 m else c1 m
def sW (m : List UInt64) : Int := if rErr m = 0 then (m.length : Int) else 0
def sT (m : List UInt64) : Int := if rErr m = 0 then at3 (one m) else 0
def view (m : List UInt64) : List UInt64 := if rErr m = 0 then one m ++ (one m ++ m.drop 16) else []
def heals (m : List UInt64) : List (Int × UInt64) := if rErr m = 0 then (diffs m (view m)).map fun i => (i, (view m).getD i.toNat 0) else []
theorem c0_len {m : List UInt64} (h : SizeOk m.length) : (c0 m).length = 8 := by have := h.1; simp [c0]; omega
theorem c1_len {m : List UInt64} (h : SizeOk m.length) : (c1 m).length = 8 := by have := h.1; simp [c1]; omega
theorem rErr_ok {m : List UInt64} (h : rErr m = 0) : SizeOk m.length ∧ (is0 m = true ∨ is1 m = true) := by
  unfold rErr at h
  split at h
  · split at h
    · exact ⟨‹_›, ‹_›⟩
    · omega
  · omega
theorem rErr_mk {m : List UInt64} (h : SizeOk m.length) (h1 : is0 m = true ∨ is1 m = true) : rErr m = 0 := by rw [rErr, if_pos h, if_pos h1]
theorem rErr_no {m : List UInt64} (h : ¬ SizeOk m.length) : rErr m = 8 := if_neg h
theorem rErr_50 {m : List UInt64} (h : SizeOk m.length) (h0 : is0 m = false) (h1 : is1 m = false) : rErr m = 50 := by rw [rErr, if_pos h, if_neg (by simp [h0, h1])]
theorem is0_no {m : List UInt64} (h : ¬ SizeOk m.length) : is0 m = false := decide_eq_false (fun x => h x.1)
theorem is1_no {m : List UInt64} (h : ¬ SizeOk m.length) : is1 m = false := decide_eq_false (fun x => h x.1)
theorem is0_good {m : List UInt64} (h : SizeOk m.length) : is0 m = decide (CopyOk m.length (c0 m)) := by simp [is0, h]
theorem is1_good {m : List UInt64} (h : SizeOk m.length) : is1 m = decide (CopyOk m.length (c1 m)) := by simp [is1, h]
theorem one_good {m : List UInt64} (h : rErr m = 0) : CopyOk m.length (one m) := by
  obtain ⟨_, h1⟩ := rErr_ok h
  unfold one
  split
  · rename_i h0; exact (of_decide_eq_true h0).2
  · rename_i h0
    exact (of_decide_eq_true (h1.resolve_left h0)).2
theorem one_len {m : List UInt64} (h : rErr m = 0) : (one m).length = 8 := readOk_len (one_good h).1
theorem view_ok {m : List UInt64} (h : rErr m = 0) : view m = one m ++ (one m ++ m.drop 16) := if_pos h
theorem view_len {m : List UInt64} (h : rErr m = 0) : (view m).length = m.length := by
  have := (rErr_ok h).1.1
  rw [view_ok h]; simp [one_len h]; omega
section
variable {m a b : List UInt64}
end
/-- differences -/
theorem diffsTo_mem {a b : List UInt64} {k : Nat} {x : Int} (h : x ∈ diffsTo a b k) : ∃ i : Nat, x = (i : Int) ∧ i < k ∧ a[i]? ≠ b[i]? := by
  unfold diffsTo at h
  obtain ⟨i, hi, rfl⟩ := List.mem_map.1 h
  obtain ⟨h1, h2⟩ := List.mem_filter.1 hi
  exact ⟨i, rfl, List.mem_range.1 h1, of_decide_eq_true h2⟩
theorem diffsTo_more {a b : List UInt64} {n : Nat} (h : ∀ i, n ≤ i → a[i]? = b[i]?) : ∀ k, n ≤ k → diffsTo a b k = diffsTo a b n
  | 0, h0 => by rw [Nat.le_zero.1 h0]
  | k + 1, h0 => by
    by_cases hk : n = k + 1
    · rw [hk]
    · rw [diffsTo_succ, diffsTo_more h k (by omega), if_neg (by simp [h k (by omega)]), List.append_nil]
theorem diffsTo_congr {a b a' b' : List UInt64} {k : Nat} (h1 : ∀ i, i < k → a[i]? = a'[i]?) (h2 : ∀ i, i < k → b[i]? = b'[i]?) : diffsTo a b k = diffsTo a' b' k := by
  unfold diffsTo
  congr 1
  apply List.filter_congr
  intro i hi
  rw [h1 i (List.mem_range.1 hi), h2 i (List.mem_range.1 hi)]
section
variable {m : List UInt64}
theorem diff_ok (h : rErr m = 0) : diffErr m (view m) = 0 ∧ diffs m (view m) = diffsTo m (view m) m.length := by
  have h1 := (rErr_ok h).1
  have h2 := view_len h
  have e : diffErr m (view m) = 0 := by rw [diffErr, if_pos ⟨h1, by rw [h2]; exact h1⟩, if_pos h2.symm]
  exact ⟨e, if_pos e⟩
/-- behind the copies all is as it was -/
theorem view_far (h : rErr m = 0) {i : Nat} (hi : 16 ≤ i) : m[i]? = (view m)[i]? := by
  rw [view_ok h, List.getElem?_append_right (by rw [one_len h]; omega), List.getElem?_append_right (by rw [one_len h]; omega), List.getElem?_drop, one_len h]
  congr 1; omega
theorem heals_to (h : rErr m = 0) : heals m = (diffsTo m (view m) 16).map fun i => (i, (view m).getD i.toNat 0) := by
  have := (rErr_ok h).1.1
  rw [heals, if_pos h, (diff_ok h).2, diffsTo_more (fun i hi => view_far h hi) m.length (by omega)]
/-- TwinApart -/
theorem apart {k : Nat} (hk : 16 ≤ k) (x : UInt64) : rErr (m.set k x) = rErr m ∧ is0 (m.set k x) = is0 m ∧ is1 (m.set k x) = is1 m ∧ sW (m.set k x) = sW m ∧ sT (m.set k x) = sT m ∧ heals (m.set k x) = heals m := by
  have e0 : c0 (m.set k x) = c0 m := by rw [c0, List.take_set_of_le (by omega)]; rfl
  have e1 : c1 (m.set k x) = c1 m := by rw [c1, List.drop_set, if_neg (by omega), List.take_set_of_le (by omega)]; rfl
  have i0 : is0 (m.set k x) = is0 m := by unfold is0; rw [e0, List.length_set]
  have i1 : is1 (m.set k x) = is1 m := by unfold is1; rw [e1, List.length_set]
  have r : rErr (m.set k x) = rErr m := by unfold rErr; rw [i0, i1, List.length_set]
  have o : one (m.set k x) = one m := by unfold one; rw [i0, e0, e1]
  refine ⟨r, i0, i1, by unfold sW; rw [r, List.length_set], by unfold sT; rw [r, o], ?_⟩
  by_cases h : rErr m = 0
  · have h' : rErr (m.set k x) = 0 := r.trans h
    have ev : ∀ i, i < 16 → (view (m.set k x))[i]? = (view m)[i]? := fun i hi => by
      rw [view_ok h, view_ok h', o, ← List.append_assoc, ← List.append_assoc, List.getElem?_append_left (l₁ := one m ++ one m) (by simp [one_len h]; omega), List.getElem?_append_left (l₁ := one m ++ one m) (by simp [one_len h]; omega)]
    rw [heals_to h, heals_to h', diffsTo_congr (a' := m) (b' := view m) (fun i hi => by rw [List.getElem?_set_ne (by omega)]) ev]
    apply List.map_congr_left
    intro y hy
    obtain ⟨i, rfl, hi, _⟩ := diffsTo_mem hy
    simp only [Int.toNat_natCast, List.getD_eq_getElem?_getD, ev i hi]
  · rw [heals, if_neg (by rw [r]; exact h), heals, if_neg h]
end
/-- an image of zeros with a superblock in both copies -/
def made (W T : Int) : List UInt64 := wordsOf W T ++ (wordsOf W T ++ List.replicate (W.toNat - 16) 0)
end Go.Proofs.Ytbfmdbeeiicabaa.L07
namespace Go.Proofs.Ytbfmdbeeiicabaa.L13
open L05
def kErr (l : List UInt8) : Int := if 8 < l.length then 4 else if ∀ k ∈ l, 1 ≤ k.toNat ∧ k.toNat ≤ 3 then 0 else 8
def kSize (l : List UInt8) : Int := if kErr l = 0 then 2 + ((l.length + 1) / 2 * 2 : Nat) else 0
/-- digits to the base 4, the first one the lowest -/
def fN : List UInt8 → Nat
  | [] => 0
  | k :: l => k.toNat + 4 * fN l
def firstN (l : List UInt8) : Nat := fN l * 256 + l.length
def w0 (l : List UInt8) : UInt64 := if kErr l = 0 then UInt64.ofNat (firstN l) else 0
def w1 (l : List UInt8) : UInt64 := if kErr l = 0 then sum [w0 l] else 0
def nOf (a : UInt64) : Nat := a.toNat % 256
def dig (a : UInt64) (n : Nat) : List UInt8 := (List.range n).map fun i => UInt8.ofNat (a.toNat / 256 / 4 ^ i % 4)
def RdOk (a b : UInt64) : Prop := nOf a ≤ 8 ∧ kErr (dig a (nOf a)) = 0 ∧ w0 (dig a (nOf a)) = a ∧ w1 (dig a (nOf a)) = b
instance (a b : UInt64) : Decidable (RdOk a b) := inferInstanceAs (Decidable (_ ∧ _ ∧ _ ∧ _))
def rdL (a b : UInt64) : List UInt8 := if RdOk a b then dig a (nOf a) else []
def rdE (a b : UInt64) : Int := if RdOk a b then 0 else 50
theorem kErr_ok {l : List UInt8} (h : kErr l = 0) : l.length ≤ 8 ∧ ∀ k ∈ l, 1 ≤ k.toNat ∧ k.toNat ≤ 3 := by
  unfold kErr at h
  split at h
  · omega
  · split at h
    · exact ⟨by omega, by assumption⟩
    · omega
theorem kErr_of {l : List UInt8} (h : l.length ≤ 8) (h2 : ∀ k ∈ l, 1 ≤ k.toNat ∧ k.toNat ≤ 3) : kErr l = 0 := by
  unfold kErr
  rw [if_neg (by omega), if_pos h2]
theorem kErr_many {l : List UInt8} (h : 8 < l.length) : kErr l = 4 := if_pos h
theorem kErr_bad {l : List UInt8} (h : l.length ≤ 8) {k : Nat} {x : UInt8} (hx : l[k]? = some x) (hb : ¬ (1 ≤ x.toNat ∧ x.toNat ≤ 3)) : kErr l = 8 := by
  unfold kErr
  rw [if_neg (by omega), if_neg]
  intro hall
  exact hb (hall x (List.mem_of_getElem? hx))
theorem fN_snoc : ∀ (l : List UInt8) (k : UInt8), fN (l ++ [k]) = fN l + k.toNat * 4 ^ l.length
  | [], k => by simp [fN]
  | x :: l, k => by
    rw [List.cons_append, fN, fN_snoc l k, fN, List.length_cons, Nat.pow_succ]
    have : k.toNat * (4 ^ l.length * 4) = 4 * (k.toNat * 4 ^ l.length) := by rw [← Nat.mul_assoc, Nat.mul_comm]
    omega
theorem fN_lt : ∀ (l : List UInt8), (∀ k ∈ l, k.toNat ≤ 3) → fN l < 4 ^ l.length
  | [], _ => by simp [fN]
  | x :: l, h => by
    have h1 := fN_lt l fun k hk => h k (List.mem_cons_of_mem _ hk)
    have h2 := h x List.mem_cons_self
    rw [fN, List.length_cons, Nat.pow_succ]
    omega
theorem fN_take {l : List UInt8} {k : Nat} {x : UInt8} (hx : l[k]? = some x) : fN (l.take (k + 1)) = fN (l.take k) + x.toNat * 4 ^ k := by
  have hk : k < l.length := (List.getElem?_eq_some_iff.1 hx).1
  rw [List.take_add_one, hx]
  show fN (l.take k ++ [x]) = _
  rw [fN_snoc, List.length_take, Nat.min_eq_left (by omega)]
theorem fN_drop {l : List UInt8} {k : Nat} {x : UInt8} (hx : l[k]? = some x) : fN (l.drop k) = x.toNat + 4 * fN (l.drop (k + 1)) := by
  obtain ⟨hk, rfl⟩ := List.getElem?_eq_some_iff.1 hx
  rw [List.drop_eq_getElem_cons hk, fN]
theorem pow4_le {n : Nat} (h : n ≤ 8) : 4 ^ n ≤ 65536 := Nat.pow_le_pow_right (by omega) h
theorem firstN_lt {l : List UInt8} (h : kErr l = 0) : firstN l < 16777216 := by
  obtain ⟨h1, h2⟩ := kErr_ok h
  have h3 := fN_lt l fun k hk => (h2 k hk).2
  have h4 := pow4_le h1
  unfold firstN
  omega
theorem w0_nat {l : List UInt8} (h : kErr l = 0) : (w0 l).toNat = firstN l := by
  rw [w0, if_pos h, UInt64.toNat_ofNat']
  have := firstN_lt h
  exact Nat.mod_eq_of_lt (by omega)
theorem dig_succ (a : UInt64) (n : Nat) : dig a (n + 1) = dig a n ++ [UInt8.ofNat (a.toNat / 256 / 4 ^ n % 4)] := by
  unfold dig
  rw [List.range_succ, List.map_append]; rfl
theorem dig_len (a : UInt64) (n : Nat) : (dig a n).length = n := by simp [dig]
end Go.Proofs.Ytbfmdbeeiicabaa.L13
namespace Go.Proofs.Ytbfmdbeeiicabaa.L13
open L02 L05
/-- the two words of type number i -/
def ta (l : List UInt64) (i : Nat) : UInt64 := l.getD (96 + 2 * i) 0
def tb (l : List UInt64) (i : Nat) : UInt64 := l.getD (97 + 2 * i) 0
def TyOk (l : List UInt64) (n i : Nat) : Prop := if i < n then RdOk (ta l i) (tb l i) else ta l i = 0 ∧ tb l i = 0
instance (l : List UInt64) (n i : Nat) : Decidable (TyOk l n i) := inferInstanceAs (Decidable (if i < n then RdOk (ta l i) (tb l i) else ta l i = 0 ∧ tb l i = 0))
def TysOk (l : List UInt64) (n : Nat) : Prop := ∀ i, i < 8 → TyOk l n i
instance (l : List UInt64) (n : Nat) : Decidable (TysOk l n) := inferInstanceAs (Decidable (∀ i, i < 8 → TyOk l n i))
def tysTo (l : List UInt64) (k : Nat) : List (List UInt8) := (List.range k).map fun i => rdL (ta l i) (tb l i)
def tabErr (l : List UInt64) (n : Int) : Int := if SizeOk l.length then (if 0 ≤ n ∧ n ≤ 8 then (if TysOk l n.toNat then 0 else 50) else 2) else 8
def tabT (l : List UInt64) (n : Int) : List (List UInt8) := if tabErr l n = 0 then tysTo l n.toNat else []
theorem tysTo_succ (l : List UInt64) (k : Nat) : tysTo l (k + 1) = tysTo l k ++ [rdL (ta l k) (tb l k)] := by
  unfold tysTo
  rw [List.range_succ, List.map_append]; rfl
theorem tysTo_len (l : List UInt64) (k : Nat) : (tysTo l k).length = k := by simp [tysTo]
theorem ta_of {l : List UInt64} {i : Nat} {x : UInt64} (h : l[96 + 2 * i]? = some x) : ta l i = x := by simp [ta, List.getD_eq_getElem?_getD, h]
theorem tb_of {l : List UInt64} {i : Nat} {x : UInt64} (h : l[97 + 2 * i]? = some x) : tb l i = x := by simp [tb, List.getD_eq_getElem?_getD, h]
theorem rdE_ok {a b : UInt64} : rdE a b = 0 ↔ RdOk a b := by
  unfold rdE
  split <;> simp_all
end Go.Proofs.Ytbfmdbeeiicabaa.L13
namespace Go.Proofs.Ytbfmdbeeiicabaa.L18
open L02
structure Sl where
  gen : Int
  used : Bool
  at_ : Int
deriving DecidableEq
def Sl.none : Sl := ⟨0, false, 0⟩
def Right (s : Sl) : Prop := 0 ≤ s.gen ∧ s.gen ≤ 2147483647 ∧ (s.used = false → s.at_ = 0) ∧ (s.used = true → 0 < s.gen ∧ 128 ≤ s.at_ ∧ s.at_ < 2048)
instance (s : Sl) : Decidable (Right s) := inferInstanceAs (Decidable (0 ≤ s.gen ∧ s.gen ≤ 2147483647 ∧ (s.used = false → s.at_ = 0) ∧ (s.used = true → 0 < s.gen ∧ 128 ≤ s.at_ ∧ s.at_ < 2048)))
def pkN (s : Sl) : Nat := s.at_.toNat + s.gen.toNat * 4294967296 + (if s.used then 9223372036854775808 else 0)
def pk (s : Sl) : UInt64 := UInt64.ofNat (pkN s)
def spl (w : UInt64) : Sl := ⟨(w.toNat / 4294967296 % 2147483648 : Nat), decide (w.toNat / 9223372036854775808 = 1), (w.toNat % 4294967296 : Nat)⟩
def word (s : Sl) : UInt64 := if Right s then pk s else 0
def splErr (w : UInt64) : Int := if Right (spl w) then 0 else 50
def spl0 (w : UInt64) : Sl := if Right (spl w) then spl w else .none
/-- the words of slots, in an image -/
def ws (l : List UInt64) : List UInt64 := (l.drop 112).take 16
def slots (l : List UInt64) : List Sl := (ws l).map spl
def AllR (l : List UInt64) : Prop := ∀ x ∈ ws l, Right (spl x)
instance (l : List UInt64) : Decidable (AllR l) := inferInstanceAs (Decidable (∀ x ∈ ws l, Right (spl x)))
def openErr (l : List UInt64) : Int := if SizeOk l.length then (if AllR l then 0 else 50) else 8
def all (l : List UInt64) : List Sl := if openErr l = 0 then slots l else []
def rightErr (L : List Sl) (s g : Int) : Int := if 0 ≤ s ∧ s < L.length then (if (L.getD s.toNat .none).used = true ∧ (L.getD s.toNat .none).gen = g then 0 else 28) else 2
/-- the first free slot from k on -/
def nextFrom : List Sl → Nat → Option Nat
  | [], _ => none
  | s :: L, k => if s.used = false ∧ s.gen ≠ 2147483647 then some k else nextFrom L (k + 1)
def next (L : List Sl) : Option Nat := nextFrom L 0
end Go.Proofs.Ytbfmdbeeiicabaa.L18
namespace Go.Proofs.Ytbfmdbeeiicabaa.L18
open L02
theorem size_of {l : List UInt64} (h : openErr l = 0) : SizeOk l.length := by
  unfold openErr at h
  split at h
  · assumption
  · omega
theorem allR_of {l : List UInt64} (h : openErr l = 0) : AllR l := by
  unfold openErr at h
  split at h
  · split at h
    · assumption
    · omega
  · omega
theorem slots_len' {l : List UInt64} (h : openErr l = 0) : (slots l).length = 16 := by
  have := (size_of h).1
  simp [slots, ws]; omega
end Go.Proofs.Ytbfmdbeeiicabaa.L18
namespace Go.Proofs.Ytbfmdbeeiicabaa.L20
open L02 L13 L18
structure Ob where
  ty : Int
  fs : List UInt64
deriving DecidableEq
structure Mo where
  types : List (List UInt8)
  objs : List Ob
  slots : List Sl
deriving DecidableEq
def Mo.nil : Mo := ⟨[], [], []⟩
def no : UInt64 := 9221120237041090561
def FloatOk (v : UInt64) : Prop := v.toNat = 9221120237041090561 ∨ v.toNat % 9223372036854775808 ≤ 9218868437227405312
instance (v : UInt64) : Decidable (FloatOk v) := inferInstanceAs (Decidable (_ ∨ _))
/-- a field of the kind k may hold v, with n objects -/
def FdOk (n : Nat) (k : UInt8) (v : UInt64) : Prop := (k.toNat = 2 → FloatOk v) ∧ (k.toNat = 3 → v.toNat ≤ n)
instance (n : Nat) (k : UInt8) (v : UInt64) : Decidable (FdOk n k v) := inferInstanceAs (Decidable (_ ∧ _))
def ty (T : List (List UInt8)) (o : Ob) : List UInt8 := T.getD o.ty.toNat []
def ObOk (T : List (List UInt8)) (n : Nat) (o : Ob) : Prop := (0 ≤ o.ty ∧ o.ty < T.length) ∧ o.fs.length = (ty T o).length ∧ ∀ i, i < o.fs.length → FdOk n ((ty T o).getD i 0) (o.fs.getD i 0)
instance (T : List (List UInt8)) (n : Nat) (o : Ob) : Decidable (ObOk T n o) := inferInstanceAs (Decidable (_ ∧ _ ∧ ∀ i, i < o.fs.length → _))
def SlOk (n : Nat) (s : Sl) : Prop := (0 ≤ s.gen ∧ s.gen ≤ 2147483647) ∧ (s.used = false → s.at_ = 0) ∧ (s.used = true → 0 < s.gen ∧ 0 ≤ s.at_ ∧ s.at_ < n)
instance (n : Nat) (s : Sl) : Decidable (SlOk n s) := inferInstanceAs (Decidable (_ ∧ _ ∧ _))
def MoOk (m : Mo) : Prop := m.slots.length = 16 ∧ (∀ t ∈ m.types, kErr t = 0) ∧ (∀ o ∈ m.objs, ObOk m.types m.objs.length o) ∧ ∀ s ∈ m.slots, SlOk m.objs.length s
instance (m : Mo) : Decidable (MoOk m) := inferInstanceAs (Decidable (_ ∧ _ ∧ _ ∧ _))
def chk (m : Mo) : Int := if 8 < m.types.length ∨ 960 < m.objs.length then 4 else if MoOk m then 0 else 8
/-- more than the statements consider -/
def Great (m : Mo) : Prop := (40 < m.objs.length ∧ m.objs.length < 960) ∨ 962 < m.objs.length ∨ 20 < m.types.length ∨ 30 < m.slots.length ∨ (∃ t ∈ m.types, 20 < t.length) ∨ ∃ o ∈ m.objs, 20 < o.fs.length
instance (m : Mo) : Decidable (Great m) := inferInstanceAs (Decidable (_ ∨ _ ∨ _ ∨ _ ∨ _ ∨ _))
def asked (m : Mo) (sl g : Int) : Int := if chk m = 0 then rightErr m.slots sl g else chk m
def own (m : Mo) (sl : Int) : Nat := (m.slots.getD sl.toNat .none).at_.toNat
def ob (m : Mo) (k : Nat) : Ob := m.objs.getD k ⟨0, []⟩
def kinds (m : Mo) (sl : Int) : List UInt8 := ty m.types (ob m (own m sl))
/-- the error of a field -/
def kErrF (m : Mo) (sl g n : Int) : Int := if asked m sl g = 0 then (if 0 ≤ n ∧ n < (kinds m sl).length then 0 else 2) else asked m sl g
def kind (m : Mo) (sl g n : Int) : UInt8 := if kErrF m sl g n = 0 then (kinds m sl).getD n.toNat 0 else 0
def putF (m : Mo) (k i : Nat) (x : UInt64) : Mo := ⟨m.types, m.objs.set k ⟨(ob m k).ty, (ob m k).fs.set i x⟩, m.slots⟩
def put (m : Mo) (sl n : Int) (x : UInt64) : Mo := putF m (own m sl) n.toNat x
theorem chk_ok {m : Mo} (h : chk m = 0) : m.types.length ≤ 8 ∧ m.objs.length ≤ 960 ∧ MoOk m := by
  unfold chk at h
  split at h
  · omega
  · split at h
    · exact ⟨by omega, by omega, by assumption⟩
    · omega
end Go.Proofs.Ytbfmdbeeiicabaa.L20
namespace Go.Proofs.Ytbfmdbeeiicabaa.L19
open L02 L07 L13 L14 L15 L18
/-- eight words are 0 -/
def Zr (l : List UInt64) (a : Nat) : Prop := ∀ i, i < 8 → l.getD (a + i) 0 = 0
instance (l : List UInt64) (a : Nat) : Decidable (Zr l a) := inferInstanceAs (Decidable (∀ i, i < 8 → _))
def objs (L : List Hb) : List Hb := L.filter fun b => decide (b.kind = 1)
/-- an object begins at an address -/
def IsObj (O : List Hb) (a : Int) : Prop := ∃ b ∈ O, b.at_ = a
instance (O : List Hb) (a : Int) : Decidable (IsObj O a) := inferInstanceAs (Decidable (∃ b ∈ O, _))
def kindsB (T : List (List UInt8)) (b : Hb) : List UInt8 := T.getD b.ty.toNat []
def fw (l : List UInt64) (b : Hb) (i : Nat) : UInt64 := l.getD (b.at_.toNat + 2 + i) 0
def Idle (b : Hb) : Prop := b.mark = false ∧ b.next = 0
instance (b : Hb) : Decidable (Idle b) := inferInstanceAs (Decidable (_ ∧ _))
def Typed (T : List (List UInt8)) (b : Hb) : Prop := b.ty < T.length ∧ b.size = 2 + (((kindsB T b).length + 1) / 2 * 2 : Nat)
instance (T : List (List UInt8)) (b : Hb) : Decidable (Typed T b) := inferInstanceAs (Decidable (_ ∧ _))
def Padded (l : List UInt64) (T : List (List UInt8)) (b : Hb) : Prop := (kindsB T b).length % 2 = 0 ∨ fw l b (kindsB T b).length = 0
instance (l : List UInt64) (T : List (List UInt8)) (b : Hb) : Decidable (Padded l T b) := inferInstanceAs (Decidable (_ ∨ _))
def FloatsB (l : List UInt64) (T : List (List UInt8)) (b : Hb) : Prop := ∀ i, i < (kindsB T b).length → ((kindsB T b).getD i 0).toNat = 2 → L20.FloatOk (fw l b i)
instance (l : List UInt64) (T : List (List UInt8)) (b : Hb) : Decidable (FloatsB l T b) := inferInstanceAs (Decidable (∀ i, i < _ → _))
def RefsB (l : List UInt64) (T : List (List UInt8)) (O : List Hb) (b : Hb) : Prop := ∀ i, i < (kindsB T b).length → ((kindsB T b).getD i 0).toNat = 3 → (fw l b i = 0 ∨ IsObj O (fw l b i).toNat)
instance (l : List UInt64) (T : List (List UInt8)) (O : List Hb) (b : Hb) : Decidable (RefsB l T O b) := inferInstanceAs (Decidable (∀ i, i < _ → _))
/-- what an object must have, by the number of the reason -/
def Good (l : List UInt64) (T : List (List UInt8)) (O : List Hb) (r : Nat) (b : Hb) : Prop :=
  match r with
  | 7 => Idle b
  | 8 => Typed T b
  | 9 => Padded l T b
  | 10 => FloatsB l T b
  | _ => RefsB l T O b
instance (l : List UInt64) (T : List (List UInt8)) (O : List Hb) (r : Nat) (b : Hb) : Decidable (Good l T O r b) := by
  unfold Good; split <;> infer_instance
def AllGood (l : List UInt64) (T : List (List UInt8)) (O : List Hb) (r : Nat) : Prop := ∀ b ∈ O, Good l T O r b
instance (l : List UInt64) (T : List (List UInt8)) (O : List Hb) (r : Nat) : Decidable (AllGood l T O r) := inferInstanceAs (Decidable (∀ b ∈ O, _))
def SlotsGood (S : List Sl) (O : List Hb) : Prop := ∀ s ∈ S, s.used = true → IsObj O s.at_
instance (S : List Sl) (O : List Hb) : Decidable (SlotsGood S O) := inferInstanceAs (Decidable (∀ s ∈ S, _ → _))
/-- the types, the slots, the blocks, the objects of an image -/
def T19 (l : List UInt64) : List (List UInt8) := tabT l (sT l)
def O19 (l : List UInt64) : List Hb := objs (allL l)
/-- the first of the reasons 1 to 6 -/
def why6 (l : List UInt64) : Nat :=
  if rErr l ≠ 0 then 1 else if ¬ Zr l 16 then 2 else if ¬ Zr l 24 then 3 else if tabErr l (sT l) ≠ 0 then 4 else if openErr l ≠ 0 then 5 else if allErr l ≠ 0 then 6 else 0
/-- the first of the reasons r to 11, or 0 -/
def whyO (l : List UInt64) (T : List (List UInt8)) (O : List Hb) : Nat → Nat → Nat
  | 0, _ => 0
  | f + 1, r => if AllGood l T O r then whyO l T O f (r + 1) else r
def why (l : List UInt64) : Nat :=
  if why6 l ≠ 0 then why6 l else if whyO l (T19 l) (O19 l) 5 7 ≠ 0 then whyO l (T19 l) (O19 l) 5 7 else if SlotsGood (slots l) (O19 l) then 0 else 12
def reaE (l : List UInt64) : Int := if SizeOk l.length then 0 else 8
def rea (l : List UInt64) : Nat := if SizeOk l.length then why l else 0
def chk19 (l : List UInt64) : Int := if SizeOk l.length then (if why l = 0 then 0 else 50) else 8
theorem whyO_range {l : List UInt64} {T : List (List UInt8)} {O : List Hb} : ∀ (f r : Nat), whyO l T O f r = 0 ∨ (r ≤ whyO l T O f r ∧ whyO l T O f r < r + f)
  | 0, r => .inl rfl
  | f + 1, r => by
    rw [whyO]
    split
    · rcases whyO_range f (r + 1) (l := l) (T := T) (O := O) with h | h
      · exact .inl h
      · exact .inr (by omega)
    · exact .inr (by omega)
theorem whyO_zero {l : List UInt64} {T : List (List UInt8)} {O : List Hb} : ∀ (f r : Nat), 0 < r → (whyO l T O f r = 0 ↔ ∀ i, r ≤ i → i < r + f → AllGood l T O i)
  | 0, r, _ => ⟨fun _ i h1 h2 => by omega, fun _ => rfl⟩
  | f + 1, r, hr => by
    rw [whyO]
    by_cases h : AllGood l T O r
    · rw [if_pos h, whyO_zero f (r + 1) (by omega)]
      refine ⟨fun h2 i h3 h4 => ?_, fun h2 i h3 h4 => h2 i (by omega) (by omega)⟩
      by_cases hi : i = r
      · subst hi; exact h
      · exact h2 i (by omega) (by omega)
    · rw [if_neg h]
      exact ⟨fun h2 => by omega, fun h2 => absurd (h2 r (Nat.le_refl _) (by omega)) h⟩
theorem why6_zero {l : List UInt64} : why6 l = 0 ↔ rErr l = 0 ∧ Zr l 16 ∧ Zr l 24 ∧ tabErr l (sT l) = 0 ∧ openErr l = 0 ∧ allErr l = 0 := by
  unfold why6
  by_cases h1 : rErr l = 0 <;> by_cases h2 : Zr l 16 <;> by_cases h3 : Zr l 24 <;> by_cases h4 : tabErr l (sT l) = 0 <;> by_cases h5 : openErr l = 0 <;> by_cases h6 : allErr l = 0 <;> simp [h1, h2, h3, h4, h5, h6]
theorem why_zero {l : List UInt64} : why l = 0 ↔ why6 l = 0 ∧ (∀ i, 7 ≤ i → i < 12 → AllGood l (T19 l) (O19 l) i) ∧ SlotsGood (slots l) (O19 l) := by
  have h := whyO_zero (l := l) (T := T19 l) (O := O19 l) 5 7 (by omega)
  unfold why
  by_cases h1 : why6 l = 0
  · simp only [h1, ne_eq, not_true, if_false, true_and]
    by_cases h2 : whyO l (T19 l) (O19 l) 5 7 = 0
    · simp only [h2, ne_eq, not_true, if_false]
      have h2' := h.1 h2
      by_cases h3 : SlotsGood (slots l) (O19 l)
      · simp only [h3, if_true, and_true, true_iff]; exact h2'
      · simp [h3]
    · simp only [ne_eq, h2, not_false_eq_true, if_true, false_iff]
      exact fun hh => h2 (h.2 hh.1)
  · simp [h1]
theorem chk19_ok {l : List UInt64} (h : chk19 l = 0) : SizeOk l.length ∧ why l = 0 := by
  unfold chk19 at h
  split at h
  · split at h
    · rename_i h1 h2; exact ⟨h1, h2⟩
    · omega
  · omega
end Go.Proofs.Ytbfmdbeeiicabaa.L19
namespace Go.Proofs.Ytbfmdbeeiicabaa.L19
open L02 L07 L13 L14 L15 L18
theorem getD_set_ne {l : List UInt64} {p k : Nat} {v : UInt64} (h : p ≠ k) : (l.set p v).getD k 0 = l.getD k 0 := by
  rw [List.getD_eq_getElem?_getD, List.getD_eq_getElem?_getD, List.getElem?_set_ne h]
theorem getD_set_self {l : List UInt64} {p : Nat} {v : UInt64} (h : p < l.length) : (l.set p v).getD p 0 = v := by
  rw [List.getD_eq_getElem?_getD, List.getElem?_set_self h]; rfl
/-- words below an address do not matter for the blocks from there on -/
theorem stOk_set {l : List UInt64} {p k : Nat} {v : UInt64} (h : p ≠ k) : StOk (l.set p v) k ↔ StOk l k := by
  unfold StOk; rw [getD_set_ne h, List.length_set]
theorem szN_set {l : List UInt64} {p k : Nat} {v : UInt64} (h : p ≠ k) : szN (l.set p v) k = szN l k := by
  unfold szN; rw [getD_set_ne h]
theorem stand_set1 {l : List UInt64} {p k : Nat} {v : UInt64} (h : p ≠ k) : stand (l.set p v) k = { stand l k with next := (l.set p v).getD (k + 1) 0 } := by
  unfold stand; rw [getD_set_ne h]
/-- a chain stays a chain where no first word is changed -/
theorem chain_set {l : List UInt64} {p k : Nat} {v : UInt64} {L : List Hb} (h : Chain l k L) (hp : ∀ b ∈ L, b.at_ ≠ (p : Int)) : Chain (l.set p v) k (L.map fun b => { b with next := (l.set p v).getD (b.at_.toNat + 1) 0 }) := by
  induction h with
  | nil =>
    have h0 : Chain (l.set p v) (l.set p v).length [] := .nil
    rw [List.length_set] at h0
    exact h0
  | cons hk hs hc ih =>
    rename_i k L
    have hpk : p ≠ k := fun e => hp _ List.mem_cons_self (by rw [stand_at, e])
    have h1 := ih fun b hb => hp b (List.mem_cons_of_mem _ hb)
    rw [List.map_cons, stand_at, Int.toNat_natCast]
    show Chain (l.set p v) k ({ stand l k with next := (l.set p v).getD (k + 1) 0 } :: _)
    rw [show ({ stand l k with next := (l.set p v).getD (k + 1) 0 } : Hb) = stand (l.set p v) k from (stand_set1 hpk).symm]
    refine .cons (by rw [List.length_set]; exact hk) ((stOk_set hpk).2 hs) ?_
    rw [szN_set hpk]; exact h1
/-- the parts in front of the heap -/
theorem c0_set {l : List UInt64} {p : Nat} {v : UInt64} (h : 8 ≤ p) : c0 (l.set p v) = c0 l := by
  unfold c0; rw [List.take_set_of_le h]
theorem c1_set {l : List UInt64} {p : Nat} {v : UInt64} (h : 16 ≤ p) : c1 (l.set p v) = c1 l := by
  unfold c1; rw [List.drop_set, if_neg (by omega), List.take_set_of_le (by omega)]
theorem rErr_set {l : List UInt64} {p : Nat} {v : UInt64} (h : 16 ≤ p) : rErr (l.set p v) = rErr l ∧ sT (l.set p v) = sT l ∧ sW (l.set p v) = sW l := by
  have e0 : is0 (l.set p v) = is0 l := by unfold is0; rw [c0_set (by omega), List.length_set]
  have e1 : is1 (l.set p v) = is1 l := by unfold is1; rw [c1_set h, List.length_set]
  have e2 : rErr (l.set p v) = rErr l := by unfold rErr; rw [e0, e1, List.length_set]
  refine ⟨e2, ?_, ?_⟩
  · unfold sT one; rw [e2, e0, c0_set (by omega), c1_set h]
  · unfold sW; rw [e2, List.length_set]
theorem zr_set {l : List UInt64} {p a : Nat} {v : UInt64} (h : p < a ∨ a + 8 ≤ p) : Zr (l.set p v) a ↔ Zr l a := by
  unfold Zr
  constructor <;> intro hh i hi <;> have := hh i hi <;> rw [getD_set_ne (by omega)] at * <;> exact this
theorem ta_set {l : List UInt64} {p i : Nat} {v : UInt64} (h : p < 96 ∨ 112 ≤ p) (hi : i < 8) : ta (l.set p v) i = ta l i ∧ tb (l.set p v) i = tb l i := by
  unfold ta tb; exact ⟨getD_set_ne (by omega), getD_set_ne (by omega)⟩
theorem tabErr_set {l : List UInt64} {p : Nat} {v : UInt64} (h : p < 96 ∨ 112 ≤ p) (n : Int) : tabErr (l.set p v) n = tabErr l n ∧ tabT (l.set p v) n = tabT l n := by
  have e : ∀ k, TysOk (l.set p v) k ↔ TysOk l k := fun k => by
    unfold TysOk
    constructor <;> intro hh i hi <;> have := hh i hi <;> unfold TyOk at * <;> rw [(ta_set h hi).1, (ta_set h hi).2] at * <;> exact this
  have e2 : tabErr (l.set p v) n = tabErr l n := by
    unfold tabErr; rw [List.length_set]; simp only [e]
  refine ⟨e2, ?_⟩
  unfold tabT
  rw [e2]
  by_cases h0 : tabErr l n = 0
  · rw [if_pos h0, if_pos h0]
    have hn : n.toNat ≤ 8 := by
      unfold tabErr at h0
      split at h0
      · split at h0
        · omega
        · omega
      · omega
    unfold tysTo
    refine List.map_congr_left fun i hi => ?_
    have := List.mem_range.1 hi
    rw [(ta_set h (by omega)).1, (ta_set h (by omega)).2]
  · rw [if_neg h0, if_neg h0]
theorem open_set {l : List UInt64} {p : Nat} {v : UInt64} (h : p < 112 ∨ 128 ≤ p) : openErr (l.set p v) = openErr l ∧ slots (l.set p v) = slots l := by
  have e : ws (l.set p v) = ws l := by
    unfold ws
    rw [List.drop_set]
    split
    · rfl
    · rw [List.take_set_of_le (by omega)]
  refine ⟨?_, by unfold slots; rw [e]⟩
  have e2 : AllR (l.set p v) ↔ AllR l := by unfold AllR; rw [e]
  unfold openErr; rw [List.length_set]; simp only [e2]
/-- the words of fields -/
theorem fw_set {l : List UInt64} {p i : Nat} {v : UInt64} {b : Hb} (h : p ≠ b.at_.toNat + 2 + i) : fw (l.set p v) b i = fw l b i := getD_set_ne h
/-- where the blocks of a chain lie -/
theorem chain_apart {l : List UInt64} {k : Nat} {L : List Hb} (h : Chain l k L) : (∀ b ∈ L, (k : Int) ≤ b.at_) ∧ L.Pairwise fun a b => a.at_ + a.size ≤ b.at_ := by
  induction h with
  | nil => exact ⟨fun b hb => (by cases hb), .nil⟩
  | cons hk hs hc ih =>
    rename_i k L
    have hz := szN_ge hs
    have hst := stand_size hs
    refine ⟨fun b hb => ?_, List.pairwise_cons.2 ⟨fun b hb => ?_, ih.2⟩⟩
    · rcases List.mem_cons.1 hb with rfl | hb
      · exact Int.le_refl _
      · have := ih.1 b hb; omega
    · have := ih.1 b hb
      rw [stand_at, hst]; omega
theorem apart_of {L : List Hb} (h : L.Pairwise fun a b => a.at_ + a.size ≤ b.at_) {a b : Hb} (ha : a ∈ L) (hb : b ∈ L) : a = b ∨ a.at_ + a.size ≤ b.at_ ∨ b.at_ + b.size ≤ a.at_ := by
  induction h with
  | nil => cases ha
  | cons h1 _ ih =>
    rcases List.mem_cons.1 ha with e1 | ha
    · rcases List.mem_cons.1 hb with e2 | hb
      · exact .inl (e1.trans e2.symm)
      · rw [e1]; exact .inr (.inl (h1 b hb))
    · rcases List.mem_cons.1 hb with e2 | hb
      · rw [e2]; exact .inr (.inr (h1 a ha))
      · exact ih ha hb
/-- a block of a heap -/
theorem all_mem {l : List UInt64} (h : allErr l = 0) {b : Hb} (hb : b ∈ allL l) : ∃ a : Nat, 128 ≤ a ∧ a < l.length ∧ StOk l a ∧ b = stand l a ∧ a % 2 = 0 := by
  obtain ⟨a, h1, h2, h3, h4, h5⟩ := chain_mem (chain_iff.1 (parsed_ok.1 (allErr_ok h).2).1) b hb
  exact ⟨a, h1, h2, h3, h4, h5 rfl⟩
theorem all_apart {l : List UInt64} (h : allErr l = 0) {a b : Hb} (ha : a ∈ allL l) (hb : b ∈ allL l) : a = b ∨ a.at_ + a.size ≤ b.at_ ∨ b.at_ + b.size ≤ a.at_ :=
  apart_of (chain_apart (chain_iff.1 (parsed_ok.1 (allErr_ok h).2).1)).2 ha hb
theorem objs_mem {L : List Hb} {b : Hb} : b ∈ objs L ↔ b ∈ L ∧ b.kind = 1 := by unfold objs; rw [List.mem_filter]; simp
end Go.Proofs.Ytbfmdbeeiicabaa.L19
namespace Go.Proofs.Ytbfmdbeeiicabaa.L19
open L02 L07 L13 L14 L15 L18
theorem objs_at {l : List UInt64} (h : allErr l = 0) {b : Hb} (hb : b ∈ O19 l) : ∃ a : Nat, 128 ≤ a ∧ b.at_ = a ∧ b.size = szN l a ∧ a + szN l a ≤ l.length ∧ StOk l a ∧ b = stand l a ∧ b.kind = 1 ∧ 2 ≤ szN l a ∧ a % 2 = 0 := by
  obtain ⟨hm, hk⟩ := objs_mem.1 hb
  obtain ⟨a, h1, h2, h3, h4, h5⟩ := all_mem h hm
  have hz := szN_ge h3
  exact ⟨a, h1, by rw [h4]; rfl, by rw [h4]; exact stand_size h3, hz.2.2.2.1, h3, h4, hk, hz.1, h5⟩
/-- a word of an object behind its first two -/
theorem obj_set {l : List UInt64} (h : allErr l = 0) {b : Hb} (hb : b ∈ O19 l) {p : Nat} {v : UInt64} (h1 : b.at_ + 2 ≤ p) (h2 : (p : Int) < b.at_ + b.size) :
    allErr (l.set p v) = 0 ∧ allL (l.set p v) = allL l := by
  obtain ⟨hs, hp⟩ := allErr_ok h
  obtain ⟨hfr, hadj⟩ := parsed_ok.1 hp
  obtain ⟨hbm, hbk⟩ := objs_mem.1 hb
  have far : ∀ c ∈ allL l, c.at_ ≠ (p : Int) ∧ p ≠ c.at_.toNat + 1 := fun c hc => by
    obtain ⟨a, _, _, h3, h4, _⟩ := all_mem h hc
    have hz := szN_ge h3
    have hsz : c.size = szN l a := by rw [h4]; exact stand_size h3
    have hat : c.at_ = a := by rw [h4]; rfl
    rcases all_apart h hbm hc with rfl | h5 | h5 <;> omega
  have hc := chain_set (v := v) (chain_iff.1 hfr) (fun c hc => (far c hc).1)
  have hid : (allL l).map (fun c => { c with next := (l.set p v).getD (c.at_.toNat + 1) 0 }) = allL l := by
    refine List.map_congr_left (g := id) (fun c hc => ?_) |>.trans (List.map_id _)
    obtain ⟨a, _, _, h3, h4, _⟩ := all_mem h hc
    have hat : c.at_ = a := by rw [h4]; rfl
    show { c with next := (l.set p v).getD (c.at_.toNat + 1) 0 } = c
    rw [getD_set_ne (far c hc).2, hat, Int.toNat_natCast]
    rw [h4]; rfl
  rw [hid] at hc
  have hp2 : parsed (l.set p v) = some (allL l) := parsed_ok.2 ⟨from_chain hc, hadj⟩
  have he : allErr (l.set p v) = 0 := by unfold allErr; rw [List.length_set, if_pos hs, hp2]; rfl
  exact ⟨he, by rw [allL, if_pos he, hp2]; rfl⟩
/-- a right image, by its parts -/
structure Rt (l : List UInt64) : Prop where
  sz : SizeOk l.length
  tw : rErr l = 0
  z16 : Zr l 16
  z24 : Zr l 24
  ty : tabErr l (sT l) = 0
  sl : openErr l = 0
  al : allErr l = 0
  good : ∀ i, 7 ≤ i → i < 12 → AllGood l (T19 l) (O19 l) i
  slots : SlotsGood (slots l) (O19 l)
theorem Rt.of {l : List UInt64} (h : chk19 l = 0) : Rt l := by
  obtain ⟨hs, hw⟩ := chk19_ok h
  obtain ⟨h6, hg, hsl⟩ := why_zero.1 hw
  obtain ⟨a, b, c, d, e, f⟩ := why6_zero.1 h6
  exact ⟨hs, a, b, c, d, e, f, hg, hsl⟩
theorem Rt.why {l : List UInt64} (h : Rt l) : why l = 0 := why_zero.2 ⟨why6_zero.2 ⟨h.tw, h.z16, h.z24, h.ty, h.sl, h.al⟩, h.good, h.slots⟩
theorem Rt.chk {l : List UInt64} (h : Rt l) : chk19 l = 0 := by rw [chk19, if_pos h.sz, if_pos h.why]
/-- what a field must hold -/
def FdR (O : List Hb) (k : UInt8) (v : UInt64) : Prop := (k.toNat = 2 → L20.FloatOk v) ∧ (k.toNat = 3 → v = 0 ∨ IsObj O v.toNat)
/-- the parts of an image with another field -/
structure FS (l : List UInt64) (b : Hb) (i p : Nat) (v : UInt64) : Prop where
  tw : rErr (l.set p v) = 0
  sT : sT (l.set p v) = sT l
  z16 : Zr (l.set p v) 16
  z24 : Zr (l.set p v) 24
  ty : tabErr (l.set p v) (L07.sT l) = 0
  tyT : T19 (l.set p v) = T19 l
  sl : openErr (l.set p v) = 0
  slL : slots (l.set p v) = slots l
  al : allErr (l.set p v) = 0
  alL : allL (l.set p v) = allL l
  fwb : fw (l.set p v) b i = v
  fwo : ∀ c ∈ O19 l, ∀ j, j ≤ (kindsB (T19 l) c).length → ((kindsB (T19 l) c).length % 2 = 0 → j < (kindsB (T19 l) c).length) → (c ≠ b ∨ j ≠ i) → fw (l.set p v) c j = fw l c j
theorem Rt.fs {l : List UInt64} (h : Rt l) {b : Hb} (hb : b ∈ O19 l) {i p : Nat} (v : UInt64) (hi : i < (kindsB (T19 l) b).length) (hp : p = b.at_.toNat + 2 + i) : FS l b i p v := by
  obtain ⟨a, h1, h2, h3, h4, h5, h6, h7, h8, _⟩ := objs_at h.al hb
  have hsz := (h.good 8 (by omega) (by omega) b hb).2
  have hpb : b.at_ + 2 ≤ p ∧ (p : Int) < b.at_ + b.size := by omega
  have ho := obj_set (v := v) h.al hb hpb.1 hpb.2
  have a1 := rErr_set (l := l) (v := v) (p := p) (by omega)
  have a4 := tabErr_set (l := l) (v := v) (p := p) (by omega)
  have a5 := open_set (l := l) (v := v) (p := p) (by omega)
  refine ⟨a1.1.trans h.tw, a1.2.1, (zr_set (by omega)).2 h.z16, (zr_set (by omega)).2 h.z24, (a4 _).1.trans h.ty, by unfold T19; rw [a1.2.1, (a4 _).2], a5.1.trans h.sl, a5.2, ho.1, ho.2, ?_, ?_⟩
  · unfold fw; rw [← hp]; exact getD_set_self (by omega)
  · intro c hc j hj hj2 hne
    refine fw_set ?_
    obtain ⟨a', g1, g2, g3, g4, g5, g6, _, _, _⟩ := objs_at h.al hc
    have hsz' := (h.good 8 (by omega) (by omega) c hc).2
    rcases all_apart h.al (objs_mem.1 hb).1 (objs_mem.1 hc).1 with e | h5 | h5
    · subst e
      have := hne.resolve_left (fun h => h rfl)
      omega
    · omega
    · have : (kindsB (T19 l) c).length % 2 = 0 ∨ (kindsB (T19 l) c).length % 2 = 1 := by omega
      omega
/-- the reason of an image with another field -/
theorem FS.why {l : List UInt64} (h : Rt l) {b : Hb} (hb : b ∈ O19 l) {i p : Nat} {v : UInt64} {k : UInt8} (hi : i < (kindsB (T19 l) b).length) (hk : (kindsB (T19 l) b).getD i 0 = k) (f : FS l b i p v) :
    why (l.set p v) = if k.toNat = 2 ∧ ¬ L20.FloatOk v then 10 else if k.toNat = 3 ∧ ¬ (v = 0 ∨ IsObj (O19 l) v.toNat) then 11 else 0 := by
  have eO : O19 (l.set p v) = O19 l := by unfold O19; rw [f.alL]
  have h6 : why6 (l.set p v) = 0 := why6_zero.2 ⟨f.tw, f.z16, f.z24, by rw [f.sT]; exact f.ty, f.sl, f.al⟩
  have g7 : AllGood (l.set p v) (T19 l) (O19 l) 7 := h.good 7 (by omega) (by omega)
  have g8 : AllGood (l.set p v) (T19 l) (O19 l) 8 := h.good 8 (by omega) (by omega)
  have g9 : AllGood (l.set p v) (T19 l) (O19 l) 9 := fun c hc => by
    have := h.good 9 (by omega) (by omega) c hc
    show Padded _ _ _
    have this : Padded l (T19 l) c := this
    rcases this with h1 | h1
    · exact .inl h1
    · by_cases h2 : (kindsB (T19 l) c).length % 2 = 0
      · exact .inl h2
      · refine .inr ?_
        rw [f.fwo c hc _ (Nat.le_refl _) (fun e => absurd e h2)]
        · exact h1
        · by_cases e : c = b
          · subst e; right; omega
          · left; exact e
  have g10 : AllGood (l.set p v) (T19 l) (O19 l) 10 ↔ ¬ (k.toNat = 2 ∧ ¬ L20.FloatOk v) := by
    constructor
    · intro hh h2
      have := hh b hb i hi (by rw [hk]; exact h2.1)
      rw [f.fwb] at this; exact h2.2 this
    · intro hh c hc j hj hj2
      by_cases e : c = b ∧ j = i
      · obtain ⟨rfl, rfl⟩ := e
        rw [f.fwb]
        rw [hk] at hj2
        exact Decidable.not_not.1 fun h3 => hh ⟨hj2, h3⟩
      · rw [f.fwo c hc j (by omega) (fun _ => hj) (by
          by_cases e1 : c = b
          · right; exact fun e2 => e ⟨e1, e2⟩
          · left; exact e1)]
        exact h.good 10 (by omega) (by omega) c hc j hj hj2
  have g11 : AllGood (l.set p v) (T19 l) (O19 l) 11 ↔ ¬ (k.toNat = 3 ∧ ¬ (v = 0 ∨ IsObj (O19 l) v.toNat)) := by
    constructor
    · intro hh h2
      have := hh b hb i hi (by rw [hk]; exact h2.1)
      rw [f.fwb] at this; exact h2.2 this
    · intro hh c hc j hj hj2
      by_cases e : c = b ∧ j = i
      · obtain ⟨rfl, rfl⟩ := e
        rw [f.fwb]
        rw [hk] at hj2
        exact Decidable.not_not.1 fun h3 => hh ⟨hj2, h3⟩
      · rw [f.fwo c hc j (by omega) (fun _ => hj) (by
          by_cases e1 : c = b
          · right; exact fun e2 => e ⟨e1, e2⟩
          · left; exact e1)]
        exact h.good 11 (by omega) (by omega) c hc j hj hj2
  unfold L19.why
  rw [h6, eO, f.tyT, f.slL]
  simp only [whyO, if_pos g7, if_pos g8, if_pos g9]
  have hs := h.slots
  by_cases c2 : k.toNat = 2 ∧ ¬ L20.FloatOk v
  · rw [if_pos c2, if_neg (fun h => g10.1 h c2)]; rfl
  · rw [if_neg c2, if_pos (g10.2 c2)]
    by_cases c3 : k.toNat = 3 ∧ ¬ (v = 0 ∨ IsObj (O19 l) v.toNat)
    · rw [if_pos c3, if_neg (fun h => g11.1 h c3)]; rfl
    · rw [if_neg c3, if_pos (g11.2 c3)]
      simp [hs]
/-- an image with another right field is right -/
theorem FS.rt {l : List UInt64} (h : Rt l) {b : Hb} (hb : b ∈ O19 l) {i p : Nat} {v : UInt64} {k : UInt8} (hi : i < (kindsB (T19 l) b).length) (hk : (kindsB (T19 l) b).getD i 0 = k) (f : FS l b i p v) (hv : FdR (O19 l) k v) : Rt (l.set p v) := by
  refine Rt.of ?_
  rw [chk19, if_pos (by rw [List.length_set]; exact h.sz), if_pos]
  rw [f.why h hb hi hk, if_neg (fun e => e.2 (hv.1 e.1)), if_neg (fun e => e.2 (hv.2 e.1))]
end Go.Proofs.Ytbfmdbeeiicabaa.L19
namespace Go.Proofs.Ytbfmdbeeiicabaa.L19
open L02 L05 L06 L07 L13 L14 L15 L18
/-- words written from an address on -/
def putW (l : List UInt64) (a : Nat) : List UInt64 → List UInt64
  | [] => l
  | x :: xs => putW (l.set a x) (a + 1) xs
theorem putW_len : ∀ (xs : List UInt64) (l : List UInt64) (a : Nat), (putW l a xs).length = l.length
  | [], l, a => rfl
  | x :: xs, l, a => by rw [putW, putW_len xs]; simp
theorem putW_snoc : ∀ (xs : List UInt64) (l : List UInt64) (a : Nat) (x : UInt64), putW l a (xs ++ [x]) = (putW l a xs).set (a + xs.length) x
  | [], l, a, x => rfl
  | y :: xs, l, a, x => by
    rw [List.cons_append, putW, putW_snoc xs, putW, List.length_cons]
    rw [show a + 1 + xs.length = a + (xs.length + 1) by omega]
/-- blocks laid one behind the other, as far as there is room -/
def laidF (n : Nat) : List UInt64 → Nat → List Hb → List UInt64
  | l, _, [] => l
  | l, a, b :: L => if (a : Int) + b.size ≤ n then laidF n ((l.set a (L14.word b)).set (a + 1) b.next) (a + b.size.toNat) L else l
def laid (n : Nat) (L : List Hb) : List UInt64 := laidF n (List.replicate n 0) 128 L
theorem laidF_len {n : Nat} : ∀ (L : List Hb) (l : List UInt64) (a : Nat), (laidF n l a L).length = l.length
  | [], _, _ => rfl
  | b :: L, l, a => by
    rw [laidF]
    split
    · rw [laidF_len L]; simp
    · rfl
theorem laid_len (n : Nat) (L : List Hb) : (laid n L).length = n := by rw [laid, laidF_len]; simp
def freeB (n : Int) : Hb := ⟨0, n, 2, 0, false, 0⟩
/-- the chapter's image with some types -/
def exTo (l : List UInt64) (ts : List (List UInt8)) : Nat → List UInt64
  | 0 => l
  | i + 1 => putW (exTo l ts i) (96 + 2 * i) [w0 (ts.getD i []), w1 (ts.getD i [])]
def ex0 (n : Nat) : List UInt64 := putW (putW (laid 256 [freeB 128]) 0 (wordsOf 256 n)) 8 (wordsOf 256 n)
def exL (ts : List (List UInt8)) : List UInt64 := exTo (ex0 ts.length) ts ts.length
theorem exTo_len (l : List UInt64) (ts : List (List UInt8)) : ∀ i, (exTo l ts i).length = l.length
  | 0 => rfl
  | i + 1 => by rw [exTo, putW_len, exTo_len l ts i]
theorem ex0_len (n : Nat) : (ex0 n).length = 256 := by rw [ex0, putW_len, putW_len, laid_len]
theorem exL_len (ts : List (List UInt8)) : (exL ts).length = 256 := by rw [exL, exTo_len, ex0_len]
theorem ex_size : SizeOk (exL []).length := by rw [exL_len]; decide
theorem rea_ex0 : rea (exL []) = 0 := by decide +kernel
theorem rea_ex1 : rea ((exL []).set 16 1) = 2 := by decide +kernel
theorem rea_ex2 : rea ((exL []).set 112 9223372041149743232) = 12 := by decide +kernel
end Go.Proofs.Ytbfmdbeeiicabaa.L19
namespace Go.Proofs.Ytbfmdbeeiicabaa
open Go.RowKit L01 L02 L05 L14 L15
/-- a word of a slice of the call's own -/
theorem OwnW.at_ {w : World} {base : Nat} {v : Value} {l : List UInt64} (h : OwnW w base 34 v l) {k : Nat} (hk : k < l.length) :
    ∃ ad, (∀ W, (Instr.indexAt 22 v (.int .i64 (k : Int))).run Try.prog W = .ok (.pointer (some ad)) W) ∧ w.cell? ad = some (.int .u64 (l.getD k 0).toNat) ∧ w.frozen? ad = false ∧ base ≤ ad.block ∧ v.ownBlock = some ad.block ∧ ∀ x : UInt64, OwnW (w.setCell ad (.int .u64 x.toNat)) base 34 v (l.set k x) := by
  obtain ⟨g, cap, cur, rfl, hB, hg, hnc, hcm, hcs, htake⟩ := own_form h (by omega)
  have hrd := Rd.of_own h
  have hix := fun W => Rd.ixN hrd Try.underlying22 one_u64 hk W
  have hcell := Rd.cell hrd (j := k) (u := .int .u64 (l.getD k 0).toNat) (by rw [List.getElem?_map, List.getElem?_eq_getElem hk, List.getD_eq_getElem?_getD, List.getElem?_eq_getElem hk]; rfl)
  have e1 : cellAt (.slice (some ⟨g, 0, none⟩) l.length cap) (k * 1) = ⟨g, k, none⟩ := by simp [cellAt]
  have e2 : cellAt (.slice (some ⟨g, 0, none⟩) l.length cap) k = ⟨g, k, none⟩ := by simp [cellAt]
  rw [e2] at hcell
  exact ⟨⟨g, k, none⟩, fun W => by rw [← e1]; exact hix W, hcell, World.ownsRow.frozenAt h k, hB, rfl, fun x => OwnW.set (World.ownsRow.stored h k _).1⟩
set_option maxRecDepth 100000 in
set_option maxHeartbeats 1000000 in
theorem LaidR_any (n : Nat) (v : Value) (L : List Hb) (hL : ∀ b ∈ L, BkOk b) (hl : L.length ≤ 1000) (hn : n ≤ 100000) (w : World) (h : Blks w v L) :
    Calls Try.prog 49 #[.int .i64 n, v] w fun e w' => ∃ x, e = .returned x ∧ OwnW w' w.heap.size 34 x (L19.laid n L) ∧ Below w.heap.size w w' := by
  have B : Below w.heap.size w w := Below.refl _ _
  have H := Lib.hid h; have HL := Lib.hid hL
  have lx := h.len
  obtain ⟨N, hN⟩ : ∃ N, N = L.length := ⟨_, rfl⟩
  rw [← hN] at lx hl
  have HN := Lib.hid hN
  clear h hL hN
  go_enter Try.func49, Try.ntmps49
  go_upto_region 2 with (at_make; refine wpList_makeI (by rfl) rfl (by rfl) (by rfl) Try.underlying22 info_u64 rfl (by omega) (by omega) (by omega) B (Nat.le_refl _) ?_; intro vS wb oS bS bS2)
  have o0 : OwnW wb w.heap.size 34 vS (List.replicate n 0) := OwnW.of oS (by rw [List.map_replicate]; rfl)
  have HO := Lib.hid (And.intro o0 bS)
  clear o0 oS bS bS2 B
  go_wp2
  go_loopg [6, 7] N (fun g av i wr => ∃ (a j : Nat) (l : List UInt64), j ≤ N ∧ a ≤ 2000000 ∧ g = N - j ∧ i = .int .i64 j ∧ av = .int .i64 a ∧ Hid (OwnW wr w.heap.size 34 vS l ∧ Below w.heap.size w wr ∧ L19.laidF n l a (L.drop j) = L19.laid n L ∧ l.length = n))
  case atStart => exact ⟨128, 0, List.replicate n 0, by omega, by omega, by omega, rfl, rfl, Lib.hid ⟨HO.out.1, HO.out.2, rfl, by simp⟩⟩
  case round =>
    obtain ⟨a, j, l, hj, ha, rfl, rfl, rfl, hh⟩ := hrel
    clear HO
    have o1 := hh.out.1
    have B := hh.out.2.1
    have hB0 := B.size
    by_cases hlt : j < N
    · obtain ⟨bb, oo, b, ia, m0, m1, m2, m3, m4, m5, hb, _⟩ := (Blks.below H.out B).at_ (k := j) (by rw [← HN.out]; exact hlt)
      have hbk := HL.out b (List.mem_of_getElem? hb.out)
      have hbd := hbk.bounds
      have hdr : L.drop j = b :: L.drop (j + 1) := List.drop_eq_getElem?_toList_append.trans (by rw [hb.out]; rfl)
      have hst := hh.out.2.2.1
      rw [hdr, L19.laidF] at hst
      have g1 : decide ((j : Int) < 1000) = true := decide_eq_true (by omega)
      have g2 : decide (j < 1000) = true := decide_eq_true (by omega)
      have g3 : decide ((j : Int) < (N : Int)) = true := decide_eq_true (by omega)
      have g4 : decide (j < N) = true := decide_eq_true hlt
      have hwa : IntKind.i64.wrap ((a : Int) + b.size) = (a : Int) + b.size := IntWalk.i64_in _ (by omega)
      by_cases hfit : (a : Int) + b.size ≤ n
      · rw [if_pos hfit] at hst
        have g5 : decide ((a : Int) + b.size ≤ (n : Int)) = true := decide_eq_true hfit
        obtain ⟨x, hx⟩ : ∃ x, x = L14.word b := ⟨_, rfl⟩
        have OT := Lib.hid (fun w => OfHR_any b hbk x hx w)
        rw [← hx] at hst
        have hln : l.length = n := hh.out.2.2.2
        have hw1 : IntKind.i64.wrap ((a : Int) + 1) = (a : Int) + 1 := IntWalk.i64_in _ (by omega)
        have HZ := Lib.hid (And.intro hst hln)
        have hbn : b.size.toNat ≤ 1920 := by omega
        have hfn : a + 2 ≤ n := by omega
        have HB := Lib.hid hb.out
        have HFN := Lib.hid (show a + b.size.toNat ≤ n ∧ 0 ≤ b.size by omega)
        clear hst hx hbk hdr hb hfit hbd
        go_wp2_with fail
        refine (OT.out _).mono ?_
        rintro e wa1 ⟨rfl, b⟩
        replace o1 := o1.below b; replace B := B.trans (b.mono B.size); clear b
        obtain ⟨ad, ia1, ca, fa, hb1, -, hst1⟩ := o1.at_ (k := a) (by rw [HZ.out.2]; omega)
        go_upto_region 7 with (fail)
        refine wp_gen (fun V => OwnW V w.heap.size 34 vS (l.set a x) ∧ Below w.heap.size w V) ⟨hst1 x, B.setCell (p := ad) hb1 _⟩ ?_
        clear o1 B ia1 ca fa hb1 hst1 ia m0 m1 m2 m3 m4 m5
        rintro V2 ⟨o2, B⟩
        obtain ⟨bb, oo, b2, ia, m0, m1, m2, m3, m4, m5, hb, _⟩ := (Blks.below H.out B).at_ (k := j) (by rw [← HN.out]; exact hlt)
        obtain rfl : b2 = b := by have := hb.out; rw [HB.out] at this; injection this with this; exact this.symm
        obtain ⟨ad, ia1, ca, fa, hb1, -, hst1⟩ := o2.at_ (k := a + 1) (by rw [List.length_set, HZ.out.2]; omega)
        clear hb
        have ia2 : ∀ W, (Instr.indexAt 22 vS (.int .i64 ((a : Int) + 1))).run Try.prog W = .ok (.pointer (some ad)) W := ia1
        clear ia1
        go_upto_region 8 with (fail)
        refine wp_gen (fun V => OwnW V w.heap.size 34 vS ((l.set a x).set (a + 1) b2.next) ∧ Below w.heap.size w V) ⟨hst1 b2.next, B.setCell (p := ad) hb1 _⟩ ?_
        clear o2 B ia2 ca fa hb1 hst1 ia m0 m1 m2 m3 m4 m5
        rintro V3 ⟨o3, B⟩
        obtain ⟨bb, oo, b3, ia, m0, m1, m2, m3, m4, m5, hb, _⟩ := (Blks.below H.out B).at_ (k := j) (by rw [← HN.out]; exact hlt)
        obtain rfl : b3 = b2 := by have := hb.out; rw [HB.out] at this; injection this with this; exact this.symm
        clear hb
        have HG := Lib.hid (And.intro o3 (And.intro B (And.intro HZ.out.1 (show ((l.set a x).set (a + 1) b3.next).length = n by rw [List.length_set, List.length_set]; exact HZ.out.2))))
        go_wp2
        go_roundg (N - (j + 1))
        case measure => omega
        case rel => exact ⟨a + b3.size.toNat, j + 1, _, by omega, by have := HFN.out; omega, rfl, by go_num, (by have := HFN.out; congr 1; omega), HG⟩
      · rw [if_neg hfit] at hst
        have g5 : decide ((a : Int) + b.size ≤ (n : Int)) = false := decide_eq_false hfit
        have HZ := Lib.hid hst
        clear hst hbk hdr hb hfit hbd
        go_wp2
        go_ret
        exact ⟨_, rfl, by rw [← HZ.out]; exact o1, B⟩
    · obtain rfl : j = N := by omega
      have hst := hh.out.2.2.1
      rw [HN.out, List.drop_length, L19.laidF] at hst
      have g3 : decide ((j : Int) < (j : Int)) = false := decide_eq_false (by omega)
      have HZ := Lib.hid hst
      clear hst
      go_wp2
      go_ret
      exact ⟨_, rfl, by rw [← HZ.out]; exact o1, B⟩
end Go.Proofs.Ytbfmdbeeiicabaa
namespace Go.Proofs.Ytbfmdbeeiicabaa
open Go.RowKit Go.Maps
def i64Ok (a : Int) : Prop := -9223372036854775808 ≤ a ∧ a ≤ 9223372036854775807
theorem lit_wf {a : Int} (h : i64Ok a) : (Lit.int .i64 a).wf = true := by
  unfold i64Ok at h
  have e1 : IntKind.i64.min = -9223372036854775808 := by decide
  have e2 : IntKind.i64.max = 9223372036854775807 := by decide
  simp [Lit.wf, e1, e2]
  omega
/-- block g is a map of at most n entries that yields the literal f a at a, z0 where nothing stands -/
def MapL (P : Program) (k e : TypeId) (z0 : Lit) (W : World) (g n : Nat) (f : Int → Lit) : Prop :=
  ∃ D : DataW Unit, W.ownsMap P k (plainElem P e) g n D ∧ ∀ a, D.atKey (.int .i64 a) (.lit z0) = .lit (f a)
section
variable {P : Program} {k e : TypeId} {z0 : Lit} {W : World} {g n : Nat} {f : Int → Lit}
theorem MapL.made (W : World) : MapL P k e z0 (W.alloc (.map #[] 0)) W.heap.size 0 (fun _ => z0) :=
  ⟨.map [], World.ownsMap_made W P k _, fun a => rfl⟩
theorem MapL.lt (h : MapL P k e z0 W g n f) : g < W.heap.size := by obtain ⟨D, h1, _⟩ := h; exact h1.lt
theorem MapL.kept {W' : World} {row : Option Nat} (h : MapL P k e z0 W g n f) (hg : W.grownBy W' row) (hne : some g ≠ row) : MapL P k e z0 W' g n f := by
  obtain ⟨D, h1, h2⟩ := h; exact ⟨D, h1.kept hg hne, h2⟩
theorem MapL.below {W' : World} (h : MapL P k e z0 W g n f) (hb : Below W.heap.size W W') : MapL P k e z0 W' g n f := by
  obtain ⟨D, ⟨es, clock, hh, F, hs, hD⟩, h2⟩ := h
  exact ⟨D, ⟨es, clock, (hb.block g (Array.getElem?_eq_some_iff.1 hh).1).trans hh, F, hs, hD⟩, h2⟩
theorem MapL.mono {n' : Nat} (h : MapL P k e z0 W g n f) (hn : n ≤ n') : MapL P k e z0 W g n' f := by
  obtain ⟨D, h1, h2⟩ := h; exact ⟨D, h1.mono hn, h2⟩
/-- a store, as an equation on its run -/
theorem MapL.put {t : TypeId} (h : MapL P k e z0 W g n f) (hk : P.underlying k = some (.int .i64)) (ht : P.underlying t = some (.map k e)) (hn : n < maxLen) {a : Int} (ha : i64Ok a) {v : Value} {l : Lit} (hv : plainElem (H := Unit) P e v = some (.lit l, [])) :
    ∃ W', (Instr.mapUpdate t (.map (some g)) (.int .i64 a) v).run P W = .ok () W' ∧ MapL P k e z0 W' g (n + 1) (fun b => if b = a then l else f b) ∧ W.grownBy W' (some g) := by
  obtain ⟨D, h1, h2⟩ := h
  obtain ⟨W', r1, r2, r3⟩ := h1.update (int_keyed hk) ht hn (keyOf_int_mk hk (lit_wf ha)) hv
  refine ⟨W', r1, ⟨_, r2, fun b => ?_⟩, r3⟩
  by_cases hb : b = a
  · subst hb
    show _ = DataW.lit (if b = b then l else f b)
    rw [if_pos rfl]
    exact atKey_put_same (h1.isMap) ((int_keyed hk).key (keyOf_int_mk hk (lit_wf ha))) _ _
  · show _ = DataW.lit (if b = a then l else f b)
    rw [if_neg hb, atKey_put_other (by intro e; injection e with _ e; exact hb e), h2]
theorem plainElem_bool_inv {v : Value} {b : Bool} {ps : List MemPlace} (he : P.underlying e = some .bool) (h : plainElem (H := Unit) P e v = some (.lit (.bool b), ps)) : v = .bool b := by
  unfold plainElem at h
  rw [he] at h
  cases v <;> simp at h
  rw [h.1]
/-- a look-up -/
theorem MapL.lookB {t : TypeId} {S : Int → Bool} (h : MapL P k e (.bool false) W g n (fun a => .bool (S a))) (hk : P.underlying k = some (.int .i64)) (ht : P.underlying t = some (.map k e)) (he : P.underlying e = some .bool) (hz : (zeroValue e).run P W = .ok (.bool false) W) {a : Int} (ha : i64Ok a) :
    (Instr.lookup t (.map (some g)) (.int .i64 a) false).run P W = .ok (.bool (S a)) W := by
  obtain ⟨D, h1, h2⟩ := h
  obtain ⟨v, ps, hrun, hv⟩ := h1.lookup (int_keyed hk) ht hz (plainElem_bool he false) (keyOf_int_mk hk (lit_wf ha))
  rw [h2] at hv
  rw [hrun, plainElem_bool_inv he hv]
/-- a store at the operation, for the walk -/
theorem wpList_mapPut {ops : Array Oper} {rest : List Oper} {o : Oper} {a : Act} {Q : Exit → Act → World → Prop} (hg : o.guard = none) {m x v : Operand} {t : TypeId} (hop : o.op = Op.mapUpdate t m x v) (hk : P.underlying k = some (.int .i64)) (ht : P.underlying t = some (.map k e))
    (hm : a.eval m = .map (some g)) {key : Int} {val : Value} {l : Lit} (hx : a.eval x = .int .i64 key) (hv : a.eval v = val) (h : MapL P k e z0 W g n f) (hn : n < maxLen) (hkey : i64Ok key) (hval : plainElem (H := Unit) P e val = some (.lit l, []))
    (hK : ∀ W', MapL P k e z0 W' g (n + 1) (fun b => if b = key then l else f b) → W.grownBy W' (some g) → wpList P ops Q rest (a.put o.dst undef) W') : wpList P ops Q (o :: rest) a W := by
  refine wpList_plain hg fun K' hK' => ?_
  obtain ⟨W', hrun, r1, r2⟩ := h.put hk ht hn hkey hval
  unfold Oper.wp
  simp [execOp, hop, hm, hx, hv, hrun, Result.andThen]
  exact hK' _ _ (hK W' r1 r2)
end
end Go.Proofs.Ytbfmdbeeiicabaa
namespace Go.Proofs.Ytbfmdbeeiicabaa
open Go.RowKit
def u8 (x : UInt8) : Value := .int .u8 x.toNat
def Byts (w : World) (v : Value) (l : List UInt8) : Prop := Rd w 1 v l.length (l.map u8)
def OwnB (w : World) (base E : Nat) (v : Value) (l : List UInt8) : Prop := w.ownsRow base E 1 v l.length (l.map u8)
theorem one_u8 : (Try.prog.info? 5).map (·.size) = some 1 := by kernel_rfl
theorem info_u8 : (Try.prog.info? 5).map (fun i => (i.zero, i.size, i.bytes)) = some (some (.int .u8 0), 1, 1) := by kernel_rfl
theorem one_u8s (l : List UInt8) : ∀ u ∈ l.map u8, u.oneCell' = true := by
  intro u hu; obtain ⟨x, _, rfl⟩ := List.mem_map.1 hu; rfl
section
variable {P : Program} {w w' : World} {v : Value} {l : List UInt8} {base E : Nat}
theorem OwnB.rd (h : OwnB w base E v l) : Byts w v l := Rd.of_own h
theorem Byts.below (h : Byts w v l) (hb : Below w.heap.size w w') : Byts w' v l := Rd.below h hb
theorem Byts.alloc (h : Byts w v l) (o : Obj) : Byts (w.alloc o) v l := Rd.alloc h o
theorem OwnB.below (h : OwnB w base E v l) (hb : Below w.heap.size w w') : OwnB w' base E v l := own_below h hb
theorem OwnB.nil (w : World) (base E : Nat) : OwnB w base E (.slice none 0 0) [] := World.ownsRow_nil w base E 1
theorem Byts.nil (w : World) : Byts w (.slice none 0 0) [] := Rd.nil w 1
theorem OwnB.of {n : Nat} {xs : List Value} (h : w.ownsRow base E 1 v n xs) (hx : xs = l.map u8) : OwnB w base E v l := by
  subst hx
  have hn : n = l.length := by have := h.1; simp at this; omega
  subst hn; exact h
theorem Byts.at_ {t e : TypeId} (h : Byts w v l) (ht : P.underlying t = some (.slice e)) (hi : (P.info? e).map (·.size) = some 1) {k : Nat} (hk : k < l.length) :
    ∃ ad x, (∀ W, (Instr.indexAt t v (.int .i64 (k : Int))).run P W = .ok (.pointer (some ad)) W) ∧ w.cell? ad = some (.int .u8 (UInt8.toNat x)) ∧ Hid (l[k]? = some x) :=
  ⟨_, l[k], fun W => Rd.ixN h ht hi hk W, by rw [Nat.mul_one]; exact Rd.cell h (by simp [hk]; rfl), by unfold Hid; simp [hk]⟩
end
end Go.Proofs.Ytbfmdbeeiicabaa
namespace Go.Proofs.Ytbfmdbeeiicabaa
open Go.RowKit L02 L05 L13
set_option maxHeartbeats 600000 in
theorem KCheck_any (v : Value) (l : List UInt8) (r : Int) (hr : r = kErr l) (w : World) (h : Byts w v l) : Calls Try.prog 57 #[v] w fun e w' => e = .returned (.int .i64 r) ∧ w = w' := by
  have l1 := Rd.len h Try.underlying44
  obtain ⟨N, hN⟩ : ∃ N, N = l.length := ⟨_, rfl⟩
  rw [← hN] at l1
  have HN := Lib.hid hN; have H := Lib.hid h; have HR := Lib.hid hr; clear hN h hr
  by_cases hbig : 8 < N
  · go_enter Try.func57, Try.ntmps57
    go_wp2
    go_ret
    exact ⟨ret_int (by rw [HR.out, kErr_many (by have := HN.out; omega)]), rfl⟩
  · have hs : N ≤ 8 := by omega
    clear hbig
    go_enter Try.func57, Try.ntmps57
    go_wp2
    go_loop [10] (fun i => ∃ k : Nat, k ≤ N ∧ i = .int .i64 k ∧ Hid (∀ x ∈ l.take k, 1 ≤ x.toNat ∧ x.toNat ≤ 3)) (fun i => N - (intOf i).toNat)
    case atStart => exact ⟨0, Nat.zero_le _, rfl, Lib.hid (by simp)⟩
    case round =>
      obtain ⟨k, hk, rfl, hh⟩ := hrel
      by_cases hlt : k < N
      · obtain ⟨ad, x, ia, ca, hx⟩ := H.out.at_ (P := Try.prog) Try.underlying44 one_u8 (k := k) (by have := HN.out; omega)
        by_cases hg : 1 ≤ x.toNat ∧ x.toNat ≤ 3
        · obtain ⟨h1, h2⟩ := hg
          go_wp2
          go_round
          case rel =>
            refine ⟨k + 1, by omega, by go_num, Lib.hid ?_⟩
            intro y hy
            rw [List.take_add_one, hx.out] at hy
            rcases List.mem_append.1 hy with hy | hy
            · exact hh.out y hy
            · simp at hy; subst hy; exact ⟨h1, h2⟩
          case measure => simp [intOf]; omega
        · have hcase : x.toNat < 1 ∨ 1 ≤ x.toNat ∧ 3 < x.toNat := by omega
          have hb := kErr_bad (by have := HN.out; omega) hx.out hg
          have HB := Lib.hid hb; clear hb hg
          rcases hcase with h1 | ⟨h1, h2⟩
          all_goals
            go_wp2
            go_ret
            exact ⟨ret_int (by rw [HR.out, HB.out]), rfl⟩
      · obtain rfl : k = N := by omega
        go_wp2
        go_ret
        refine ⟨ret_int ?_, rfl⟩
        rw [HR.out, kErr_of (by have := HN.out; omega)]
        have := hh.out
        rw [List.take_of_length_le (by have := HN.out; omega)] at this
        exact this
set_option maxHeartbeats 600000 in
theorem KCheckR_any (v : Value) (l : List UInt8) (r : Int) (hr : r = kErr l) (w : World) (h : Byts w v l) : Calls Try.prog 126 #[v] w fun e w' => e = .returned (.int .i64 r) ∧ w = w' := by
  have l1 := Rd.len h Try.underlying44
  obtain ⟨N, hN⟩ : ∃ N, N = l.length := ⟨_, rfl⟩
  rw [← hN] at l1
  have HN := Lib.hid hN; have H := Lib.hid h; have HR := Lib.hid hr; clear hN h hr
  by_cases hbig : 8 < N
  · go_enter Try.func126, Try.ntmps126
    go_wp2
    go_ret
    exact ⟨ret_int (by rw [HR.out, kErr_many (by have := HN.out; omega)]), rfl⟩
  · have hs : N ≤ 8 := by omega
    clear hbig
    go_enter Try.func126, Try.ntmps126
    go_wp2
    go_loop [3] (fun i => ∃ k : Nat, k ≤ N ∧ i = .int .i64 k ∧ Hid (∀ x ∈ l.take k, 1 ≤ x.toNat ∧ x.toNat ≤ 3)) (fun i => N - (intOf i).toNat)
    case atStart => exact ⟨0, Nat.zero_le _, rfl, Lib.hid (by simp)⟩
    case round =>
      obtain ⟨k, hk, rfl, hh⟩ := hrel
      by_cases hlt : k < N
      · obtain ⟨ad, x, ia, ca, hx⟩ := H.out.at_ (P := Try.prog) Try.underlying44 one_u8 (k := k) (by have := HN.out; omega)
        by_cases hg : 1 ≤ x.toNat ∧ x.toNat ≤ 3
        · obtain ⟨h1, h2⟩ := hg
          have e0 : ((x.toNat : Int) == 0) = false := by rw [beq_eq_false_iff_ne]; omega
          go_wp2
          go_round
          case rel =>
            refine ⟨k + 1, by omega, by go_num, Lib.hid ?_⟩
            intro y hy
            rw [List.take_add_one, hx.out] at hy
            rcases List.mem_append.1 hy with hy | hy
            · exact hh.out y hy
            · simp at hy; subst hy; exact ⟨h1, h2⟩
          case measure => simp [intOf]; omega
        · have hcase : ((x.toNat : Int) == 0) = true ∨ ((x.toNat : Int) == 0) = false ∧ 3 < x.toNat := by
            by_cases h0 : x.toNat = 0
            · exact .inl (by rw [beq_iff_eq]; omega)
            · exact .inr ⟨by rw [beq_eq_false_iff_ne]; omega, by omega⟩
          have hb := kErr_bad (by have := HN.out; omega) hx.out hg
          have HB := Lib.hid hb; clear hb hg
          rcases hcase with h1 | ⟨h1, h2⟩
          all_goals
            go_wp2
            go_ret
            exact ⟨ret_int (by rw [HR.out, HB.out]), rfl⟩
      · obtain rfl : k = N := by omega
        go_wp2
        go_ret
        refine ⟨ret_int ?_, rfl⟩
        rw [HR.out, kErr_of (by have := HN.out; omega)]
        have := hh.out
        rw [List.take_of_length_le (by have := HN.out; omega)] at this
        exact this
theorem kErr_len {l : List UInt8} (h : kErr l = 0) : l.length ≤ 8 := (kErr_ok h).1
set_option maxHeartbeats 600000 in
theorem KSize_any (v : Value) (l : List UInt8) (n r : Int) (hn : n = kSize l) (hr : r = kErr l) (w : World) (h : Byts w v l) : Calls Try.prog 21 #[v] w fun e w' => e = .returned (.tuple #[.int .i64 n, .int .i64 r]) ∧ w = w' := by
  have l1 := Rd.len h Try.underlying44
  obtain ⟨N, hN⟩ : ∃ N, N = l.length := ⟨_, rfl⟩
  rw [← hN] at l1
  have CT := fun w h => KCheck_any v l r hr w h
  have HC := Lib.hid CT; have H := Lib.hid h; clear CT h
  by_cases h0 : kErr l = 0
  · have hs : N ≤ 8 := by rw [hN]; exact kErr_len h0
    have hk : n = 2 + ((N + 1) / 2 * 2 : Nat) := by rw [hn, kSize, if_pos h0, hN]
    rw [h0] at hr
    have HK := Lib.hid hk
    subst hr
    clear hn h0 hN hk
    go_enter Try.func21, Try.ntmps21
    go_wp2_with fail
    refine (HC.out _ H.out).mono ?_
    rintro e w' ⟨rfl, rfl⟩
    go_wp2
    go_ret2
    exact ⟨by rw [HK.out]; exact congrArg (fun z => Ending.returned (.tuple #[.int .i64 z, .int .i64 0])) (by omega), rfl⟩
  · have hne : (r != 0) = true := by rw [bne_iff_ne, hr]; exact h0
    have hk : n = 0 := by rw [hn, kSize, if_neg h0]
    subst hk
    clear hn h0 hN hr
    go_enter Try.func21, Try.ntmps21
    go_wp2_with fail
    refine (HC.out _ H.out).mono ?_
    rintro e w' ⟨rfl, rfl⟩
    go_wp2
    go_ret2
    exact ⟨rfl, rfl⟩
end Go.Proofs.Ytbfmdbeeiicabaa
namespace Go.Proofs.Ytbfmdbeeiicabaa
open Go.RowKit L02 L05 L13
theorem Of_r (v : Value) (l : List UInt64) (x : UInt64) (hx : x = sum l) (w : World) (h : Words w v l) (hl : l.length ≤ 2048) :
    Calls Try.prog 132 #[v] w fun e w' => e = .returned (.tuple #[.int .u64 x.toNat, .int .i64 0]) ∧ Below w.heap.size w w' := by
  subst hx; exact Of_any v l w h hl
theorem SumR_r (v : Value) (l : List UInt64) (x : UInt64) (hx : x = sum l) (w : World) (h : Words w v l) (hl : l.length ≤ 2100) :
    Calls Try.prog 137 #[v] w fun e w' => e = .returned (.int .u64 x.toNat) ∧ Below w.heap.size w w' := by
  subst hx; exact SumR_any v l w h hl
theorem lit_word {w : World} {e n : Nat} (x : UInt64) (hn : w.heap.size = n) : Words (w.alloc (.cells #[.int .u64 x.toNat] e)) (.slice (some ⟨n, 0, none⟩) 1 1) [x] := by
  subst hn; exact lit_words [x] rfl rfl (by simp)
theorem or_digit {l : List UInt8} {k z N : Nat} {x : UInt8} (h0 : kErr l = 0) (hN : N = l.length) (hx : l[k]? = some x) (hz : z = fN (l.take k) * 256 + N) :
    bits .or .u64 (z : Int) (IntKind.u64.wrap ((x.toNat : Int) * 2 ^ (8 + 2 * k))) = ((fN (l.take (k + 1)) * 256 + N : Nat) : Int) := by
  obtain ⟨h1, h2⟩ := kErr_ok h0
  have hk : k < l.length := (List.getElem?_eq_some_iff.1 hx).1
  have hlt := fN_lt (l.take k) fun y hy => (h2 y (List.mem_of_mem_take hy)).2
  rw [List.length_take, Nat.min_eq_left (by omega)] at hlt
  have e4 : (2 : Nat) ^ (8 + 2 * k) = 4 ^ k * 256 := by rw [Nat.pow_add, Nat.pow_mul, Nat.mul_comm]
  have hp : 4 ^ k ≤ 4 ^ 8 := Nat.pow_le_pow_right (by omega) (by omega)
  have hx3 := (h2 x (List.mem_of_getElem? hx)).2
  have e1 : ((x.toNat : Int) * 2 ^ (8 + 2 * k)) = ((2 ^ (8 + 2 * k) * x.toNat : Nat) : Int) := by
    rw [Int.natCast_mul, Int.natCast_pow, Int.mul_comm]; rfl
  have hb : 2 ^ (8 + 2 * k) * x.toNat ≤ 4 ^ 8 * 256 * 3 := by
    rw [e4]; exact Nat.mul_le_mul (Nat.mul_le_mul_right _ hp) hx3
  simp only [show (4 : Nat) ^ 8 = 65536 from rfl] at hb hp
  have hzl : z < 2 ^ (8 + 2 * k) := by rw [e4]; omega
  have ew : IntKind.u64.wrap ((2 ^ (8 + 2 * k) * x.toNat : Nat) : Int) = ((2 ^ (8 + 2 * k) * x.toNat : Nat) : Int) := by
    rw [wrap_u64]
    generalize 2 ^ (8 + 2 * k) * x.toNat = q at hb
    omega
  rw [e1, ew, or_int (8 + 2 * k) x.toNat (by omega) (by exact_mod_cast hzl) rfl (by omega) (by generalize 2 ^ (8 + 2 * k) * x.toNat = q at hb; omega)]
  rw [fN_take hx, hz, e4]
  have : 4 ^ k * 256 * x.toNat = x.toNat * 4 ^ k * 256 := by rw [Nat.mul_comm, Nat.mul_assoc]
  omega
set_option maxHeartbeats 1000000 in
theorem KWrite_any (v : Value) (l : List UInt8) (a b : UInt64) (r : Int) (ha : a = w0 l) (hb : b = w1 l) (hr : r = kErr l) (w : World) (h : Byts w v l) :
    Calls Try.prog 97 #[v] w fun e w' => e = .returned (.tuple #[.agg #[.int .u64 a.toNat, .int .u64 b.toNat], .int .i64 r]) ∧ Below w.heap.size w w' := by
  have B : Below w.heap.size w w := Below.refl _ _
  have l1 := Rd.len h Try.underlying44
  obtain ⟨N, hN⟩ : ∃ N, N = l.length := ⟨_, rfl⟩
  rw [← hN] at l1
  have CT := fun w h => KCheck_any v l r hr w h
  have HC := Lib.hid CT; have H := Lib.hid h; clear CT h
  by_cases h0 : kErr l = 0
  · have hs : N ≤ 8 := by rw [hN]; exact kErr_len h0
    rw [h0] at hr
    subst hr
    have HN := Lib.hid hN; have H0 := Lib.hid h0
    have an : a.toNat = firstN l := by rw [ha]; exact w0_nat h0
    have hb' : b = sum [a] := by rw [hb, w1, if_pos h0, ha]
    have HAN := Lib.hid an; have HB := Lib.hid hb'
    clear hN h0 ha hb an hb'
    go_enter Try.func97, Try.ntmps97
    go_upto_region 1 with (fail)
    refine wp_gen (fun Wv => Bx Wv (w.heap.size) (151) (#[.int .u64 0, .int .u64 0]) ∧ Below w.heap.size w Wv) ⟨((Bx.at_ (by simp))), ((Below.refl _ w).alloc (by simp <;> omega) _)⟩ ?_
    rintro w' ⟨g2, b⟩
    replace B := B.trans (b.mono B.size); clear b
    have c_g2 := g2.cell; have f_g2 := g2.free; have a_g2 := fun o => (g2.alloc o).cell; have d_g2 := fun o o2 => ((g2.alloc o).alloc o2).cell; have e_g2 := fun o => (g2.alloc o).free
    go_wp2_with fail
    refine (HC.out _ (H.out.below B)).mono ?_
    rintro e w2 ⟨rfl, rfl⟩
    obtain ⟨w3, hw3⟩ : ∃ w3, w3 = w' := ⟨_, rfl⟩
    subst hw3
    go_wp2
    have HG := Lib.hid g2; have HBB := Lib.hid B; have HL := Lib.hid (H.out.below B)
    clear c_g2 f_g2 a_g2 d_g2 e_g2 g2 B
    go_loop [5, 21] (fun y i => ∃ k z : Nat, k ≤ N ∧ i = .int .i64 k ∧ y = .int .u64 (z : Int) ∧ Hid (z = fN (l.take k) * 256 + N)) (fun _ i => N - (intOf i).toNat)
    case atStart => exact ⟨0, N, Nat.zero_le _, rfl, by simp, Lib.hid (by simp [fN])⟩
    case round =>
      obtain ⟨k, z, hk, rfl, rfl, hz⟩ := hrel
      by_cases hlt : k < N
      · obtain ⟨ad, x, ia, ca, hx⟩ := HL.out.at_ (P := Try.prog) Try.underlying44 one_u8 (k := k) (by have := HN.out; omega)
        have hxl := x.toNat_lt
        go_wp2
        refine ⟨⟨k + 1, fN (l.take (k + 1)) * 256 + N, by omega, by go_num, ?_, Lib.hid rfl⟩, ?_⟩
        · rw [or_digit H0.out HN.out hx.out hz.out]
        · simp [intOf]; omega
      · obtain rfl : k = N := by omega
        have hza : z = a.toNat := by rw [hz.out, HAN.out, firstN, HN.out, List.take_length]
        subst hza
        have OT := fun v w h => Of_r v [a] b HB.out w h (by simp)
        have HO := Lib.hid OT; clear OT
        go_wp2_with fail
        refine (HO.out _ _ (lit_word a rfl)).mono ?_
        rintro e w4 ⟨rfl, bb⟩
        have g2 := HG.out.below ((Below.refl _ _).alloc (Nat.le_refl _) (.cells #[.int .u64 a.toNat] 34))
        replace g2 := g2.below bb
        have B := (HBB.out.alloc HBB.out.size (.cells #[.int .u64 a.toNat] 34)).trans (bb.mono (Nat.le_trans HBB.out.size (by simp)))
        have k2 := g2.cell; have l2 := g2.free
        clear bb g2
        go_wp2
        refine bodyPost_ret (v := .tuple #[.agg #[.int .u64 a.toNat, .int .u64 b.toNat], .int .i64 0]) (by simp [results, Try.results97, go_sem, k2, l2]) rfl ⟨rfl, ?_⟩
        (repeat (first | refine Below.setCell ?_ (by first | exact Nat.le_refl _ | (simp <;> omega)) _ | refine Below.alloc ?_ (by first | exact B.size | (have := B.size; simp <;> omega)) _)); exact B
  · have hne : (r != 0) = true := by rw [bne_iff_ne, hr]; exact h0
    have ha0 : a = 0 := by rw [ha, w0, if_neg h0]
    have hb0 : b = 0 := by rw [hb, w1, if_neg h0]
    subst ha0 hb0
    clear ha hb hr h0 hN
    go_enter Try.func97, Try.ntmps97
    go_upto_region 1 with (fail)
    refine wp_gen (fun Wv => Bx Wv (w.heap.size) (151) (#[.int .u64 0, .int .u64 0]) ∧ Below w.heap.size w Wv) ⟨((Bx.at_ (by simp))), ((Below.refl _ w).alloc (by simp <;> omega) _)⟩ ?_
    rintro w' ⟨g2, b⟩
    replace B := B.trans (b.mono B.size); clear b
    have c_g2 := g2.cell; have f_g2 := g2.free; have a_g2 := fun o => (g2.alloc o).cell; have d_g2 := fun o o2 => ((g2.alloc o).alloc o2).cell; have e_g2 := fun o => (g2.alloc o).free
    go_wp2_with fail
    refine (HC.out _ (H.out.below B)).mono ?_
    rintro e w2 ⟨rfl, rfl⟩
    go_wp2
    refine bodyPost_ret (v := .tuple #[.agg #[.int .u64 0, .int .u64 0], .int .i64 r]) (by simp [results, Try.results97, go_sem, c_g2, f_g2, a_g2, e_g2]) rfl ?_
    refine ⟨rfl, ?_⟩
    (repeat (first | refine Below.setCell ?_ (by first | exact Nat.le_refl _ | (simp <;> omega)) _ | refine Below.alloc ?_ (by first | exact B.size | (have := B.size; simp <;> omega)) _)); exact B
set_option maxHeartbeats 1000000 in
theorem FirstR_any (v : Value) (l : List UInt8) (a : UInt64) (ha : a = w0 l) (h0 : kErr l = 0) (w : World) (h : Byts w v l) :
    Calls Try.prog 138 #[v] w fun e w' => e = .returned (.int .u64 a.toNat) ∧ w = w' := by
  have l1 := Rd.len h Try.underlying44
  obtain ⟨N, hN⟩ : ∃ N, N = l.length := ⟨_, rfl⟩
  rw [← hN] at l1
  have hs : N ≤ 8 := by rw [hN]; exact kErr_len h0
  have H := Lib.hid h; have HN := Lib.hid hN; have H0 := Lib.hid h0
  have an : a.toNat = firstN l := by rw [ha]; exact w0_nat h0
  have HAN := Lib.hid an
  clear h hN h0 ha an
  go_enter Try.func138, Try.ntmps138
  go_wp2
  go_loop [3, 4] (fun y i => ∃ k z : Nat, k ≤ N ∧ i = .int .i64 ((k : Int) - 1) ∧ y = .int .u64 (z : Int) ∧ z < 65536 ∧ Hid (z = fN (l.drop k))) (fun _ i => (intOf i + 1).toNat)
  case atStart => exact ⟨N, 0, Nat.le_refl _, by go_num, rfl, by omega, Lib.hid (by rw [List.drop_of_length_le (by rw [HN.out]; exact Nat.le_refl _)]; rfl)⟩
  case round =>
    obtain ⟨k, z, hk, rfl, rfl, hzl, hz⟩ := hrel
    by_cases hlt : 0 < k
    · obtain ⟨j, rfl⟩ : ∃ j, k = j + 1 := ⟨k - 1, by omega⟩
      have ej : (((j + 1 : Nat) : Int) - 1) = (j : Int) := by omega
      rw [ej]
      obtain ⟨ad, x, ia, ca, hx⟩ := H.out.at_ (P := Try.prog) Try.underlying44 one_u8 (k := j) (by have := HN.out; omega)
      have hxl := x.toNat_lt
      have hfl := fN_lt (l.drop j) fun y hy => ((kErr_ok H0.out).2 y (List.mem_of_mem_drop hy)).2
      have hp := pow4_le (n := (l.drop j).length) (by rw [List.length_drop]; have := HN.out; omega)
      have hfd := fN_drop hx.out
      have hsm : z * 4 + x.toNat < 65536 := by rw [hz.out]; omega
      have HFD := Lib.hid hfd; clear hfl hp hfd ej
      go_wp2
      go_round
      case rel => exact ⟨j, z * 4 + x.toNat, by omega, by go_num, by go_num, hsm, Lib.hid (by have h5 := HFD.out; have h6 := hz.out; omega)⟩
      case measure => simp [intOf] <;> omega
    · obtain rfl : k = 0 := by omega
      go_wp2
      go_ret
      refine ⟨ret_int ?_, rfl⟩
      have h1 := HAN.out; have h2 := hz.out; have h3 := HN.out
      rw [List.drop_zero] at h2
      rw [h1, firstN, ← h2, ← h3]
      try omega
set_option maxHeartbeats 1000000 in
theorem KWriteR_any (v : Value) (l : List UInt8) (a b : UInt64) (r : Int) (ha : a = w0 l) (hb : b = w1 l) (hr : r = kErr l) (w : World) (h : Byts w v l) :
    Calls Try.prog 110 #[v] w fun e w' => e = .returned (.tuple #[.agg #[.int .u64 a.toNat, .int .u64 b.toNat], .int .i64 r]) ∧ Below w.heap.size w w' := by
  have B : Below w.heap.size w w := Below.refl _ _
  have CT := fun w h => KCheckR_any v l r hr w h
  have HC := Lib.hid CT; have H := Lib.hid h; clear CT h
  by_cases h0 : kErr l = 0
  · have FT := fun w h => FirstR_any v l a ha h0 w h
    have ST := fun v w h => SumR_r v [a] b (by rw [hb, w1, if_pos h0, ha]) w h (by simp)
    have HF := Lib.hid FT; have HS := Lib.hid ST
    rw [h0] at hr
    subst hr
    clear FT ST h0 ha hb
    go_enter Try.func110, Try.ntmps110
    go_upto_region 1 with (fail)
    refine wp_gen (fun Wv => Bx Wv (w.heap.size) (151) (#[.int .u64 0, .int .u64 0]) ∧ Below w.heap.size w Wv) ⟨((Bx.at_ (by simp))), ((Below.refl _ w).alloc (by simp <;> omega) _)⟩ ?_
    rintro w' ⟨g2, b⟩
    replace B := B.trans (b.mono B.size); clear b
    have c_g2 := g2.cell; have f_g2 := g2.free; have a_g2 := fun o => (g2.alloc o).cell; have d_g2 := fun o o2 => ((g2.alloc o).alloc o2).cell; have e_g2 := fun o => (g2.alloc o).free
    go_wp2_with fail
    refine (HC.out _ (H.out.below B)).mono ?_
    rintro e w2 ⟨rfl, rfl⟩
    go_wp2_with fail
    refine (HF.out _ (H.out.below B)).mono ?_
    rintro e w2 ⟨rfl, rfl⟩
    go_wp2_with fail
    refine (HF.out _ (H.out.below B)).mono ?_
    rintro e w2 ⟨rfl, rfl⟩
    go_wp2_with fail
    refine (HS.out _ _ (lit_word a rfl)).mono ?_
    rintro e w4 ⟨rfl, bb⟩
    clear c_g2 f_g2 a_g2 d_g2 e_g2
    replace g2 := (g2.below ((Below.refl _ _).alloc (Nat.le_refl _) (.cells #[.int .u64 a.toNat] 34))).below bb
    replace B := (B.alloc B.size (.cells #[.int .u64 a.toNat] 34)).trans (bb.mono (Nat.le_trans B.size (by simp)))
    have k2 := g2.cell; have l2 := g2.free
    clear bb
    go_wp2
    refine bodyPost_ret (v := .tuple #[.agg #[.int .u64 a.toNat, .int .u64 b.toNat], .int .i64 0]) (by simp [results, Try.results110, go_sem, k2, l2]) rfl ⟨rfl, ?_⟩
    (repeat (first | refine Below.setCell ?_ (by first | exact Nat.le_refl _ | (simp <;> omega)) _ | refine Below.alloc ?_ (by first | exact B.size | (have := B.size; simp <;> omega)) _)); exact B
  · have hne : (r != 0) = true := by rw [bne_iff_ne, hr]; exact h0
    have ha0 : a = 0 := by rw [ha, w0, if_neg h0]
    have hb0 : b = 0 := by rw [hb, w1, if_neg h0]
    subst ha0 hb0
    clear ha hb hr h0
    go_enter Try.func110, Try.ntmps110
    go_upto_region 1 with (fail)
    refine wp_gen (fun Wv => Bx Wv (w.heap.size) (151) (#[.int .u64 0, .int .u64 0]) ∧ Below w.heap.size w Wv) ⟨((Bx.at_ (by simp))), ((Below.refl _ w).alloc (by simp <;> omega) _)⟩ ?_
    rintro w' ⟨g2, b⟩
    replace B := B.trans (b.mono B.size); clear b
    have c_g2 := g2.cell; have f_g2 := g2.free; have a_g2 := fun o => (g2.alloc o).cell; have d_g2 := fun o o2 => ((g2.alloc o).alloc o2).cell; have e_g2 := fun o => (g2.alloc o).free
    go_wp2_with fail
    refine (HC.out _ (H.out.below B)).mono ?_
    rintro e w2 ⟨rfl, rfl⟩
    go_wp2_with fail
    refine (HC.out _ (H.out.below B)).mono ?_
    rintro e w2 ⟨rfl, rfl⟩
    go_wp2
    refine bodyPost_ret (v := .tuple #[.agg #[.int .u64 0, .int .u64 0], .int .i64 r]) (by simp [results, Try.results110, go_sem, c_g2, f_g2, a_g2, e_g2]) rfl ?_
    refine ⟨rfl, ?_⟩
    (repeat (first | refine Below.setCell ?_ (by first | exact Nat.le_refl _ | (simp <;> omega)) _ | refine Below.alloc ?_ (by first | exact B.size | (have := B.size; simp <;> omega)) _)); exact B
end Go.Proofs.Ytbfmdbeeiicabaa
namespace Go.Proofs.Ytbfmdbeeiicabaa
open Go.RowKit
section
variable {P : Program}
theorem run_eqItems_words (d : Nat) {e : TypeId} (he : P.underlying e = some (.int .u64)) (hp : ∀ (X : Array Value) (j : Nat) (u : Value) (w : World), X[j]? = some u → (part e X j).run P w = .ok u w) :
    ∀ (m k : Nat) (l1 l2 : List UInt64) (w : World), k + m ≤ l1.length → k + m ≤ l2.length →
    (Op.eqItems (d + 1) e 1 (l1.map u64).toArray (l2.map u64).toArray (List.range' k m)).run P w = .ok (decide ((l1.drop k).take m = (l2.drop k).take m)) w
  | 0, k, l1, l2, w, _, _ => by simp [Op.eqItems]
  | m + 1, k, l1, l2, w, h1, h2 => by
    have e1 : (l1.map u64).toArray[k]? = some (u64 (l1[k]'(by omega))) := by simp [show k < l1.length by omega]
    have e2 : (l2.map u64).toArray[k]? = some (u64 (l2[k]'(by omega))) := by simp [show k < l2.length by omega]
    have ih := run_eqItems_words d he hp m (k + 1) l1 l2 w (by omega) (by omega)
    rw [List.range'_succ]
    simp only [Op.eqItems, Nat.mul_one, Sem.run_bind, hp _ _ _ _ e1, hp _ _ _ _ e2, Result.andThen_ok]
    rw [show (Op.equalIn (d + 1) e (u64 (l1[k]'(by omega))) (u64 (l2[k]'(by omega)))).run P w = .ok (((l1[k]'(by omega)).toNat : Int) == ((l2[k]'(by omega)).toNat : Int)) w from run_equalIn_int w d e .u64 .u64 _ _ he]
    rw [List.drop_eq_getElem_cons (show k < l1.length by omega), List.drop_eq_getElem_cons (show k < l2.length by omega), List.take_succ_cons, List.take_succ_cons]
    by_cases hx : l1[k]'(by omega) = l2[k]'(by omega)
    · have t1 : (((l1[k]'(by omega)).toNat : Int) == ((l2[k]'(by omega)).toNat : Int)) = true := by rw [hx]; simp
      rw [t1]
      simp only [Result.andThen_ok, Bool.not_true, Bool.false_eq_true, if_false]
      rw [ih, hx]
      simp
    · have t1 : (((l1[k]'(by omega)).toNat : Int) == ((l2[k]'(by omega)).toNat : Int)) = false := by
        rw [beq_eq_false_iff_ne]; intro h; exact hx (UInt64.toNat_inj.1 (by omega))
      rw [t1]
      simp [hx]
theorem run_neq_words {t e : TypeId} {n : Nat} (ht : P.underlying t = some (.array n e)) (hi : (P.info? e).isSome = true) (he : P.underlying e = some (.int .u64)) (hc : P.cellsOf e = 1)
    (hp : ∀ (X : Array Value) (j : Nat) (u : Value) (w : World), X[j]? = some u → (part e X j).run P w = .ok u w)
    (l1 l2 : List UInt64) (h1 : l1.length = n) (h2 : l2.length = n) (w : World) : (binOp .neq t (.agg (l1.map u64).toArray) (.agg (l2.map u64).toArray)).run P w = .ok (.bool (!decide (l1 = l2))) w := by
  obtain ⟨i, hi⟩ := Option.isSome_iff_exists.1 hi
  rw [run_neq_struct, run_equalIn_array (w := w) 9999 _ _ ht hi, hc, List.range_eq_range', run_eqItems_words 9998 he hp n 0 l1 l2 w (by omega) (by omega)]
  simp only [List.drop_zero, Result.andThen_ok]
  rw [List.take_of_length_le (by omega), List.take_of_length_le (by omega)]
end
end Go.Proofs.Ytbfmdbeeiicabaa
namespace Go.Proofs.Ytbfmdbeeiicabaa
open Go.RowKit L02 L05 L13
theorem pair_neq (a b c d : UInt64) (r : Bool) (hr : r = !decide ([a, b] = [c, d])) (W : World) : (binOp .neq 151 (.agg #[.int .u64 a.toNat, .int .u64 b.toNat]) (.agg #[.int .u64 c.toNat, .int .u64 d.toNat])).run Try.prog W = .ok (.bool r) W := by
  subst hr
  exact run_neq_words (P := Try.prog) (n := 2) Try.underlying151 (by kernel_rfl) Try.underlying34 (by kernel_rfl) (fun X j u W h => run_part_plain W (by kernel_rfl) h) [a, b] [c, d] rfl rfl W
theorem lit_u8 {w : World} {e n : Nat} (x : Int) (q : UInt8) (hq : x = q.toNat) (hn : w.heap.size = n) : Rd (w.alloc (.cells #[.int .u8 x] e)) 1 (.slice (some ⟨n, 0, none⟩) 1 1) 1 ([q].map u8) := by
  subst hn hq; exact lit_rd
theorem one_u8' (q : UInt8) : ∀ u ∈ [q].map u8, u.oneCell' = true := one_u8s [q]
set_option maxHeartbeats 2000000 in
theorem KRead_any (a b : UInt64) (L : List UInt8) (r : Int) (hL : L = rdL a b) (hr : r = rdE a b) (w : World) :
    Calls Try.prog 56 #[.int .u64 a.toNat, .int .u64 b.toNat] w fun e w' => ∃ x, e = .returned (.tuple #[x, .int .i64 r]) ∧ OwnB w' w.heap.size 5 x L ∧ Below w.heap.size w w' := by
  have B : Below w.heap.size w w := Below.refl _ _
  have hal := toNat_lt a
  have e1 := and_int (a := (a.toNat : Int)) 8 (by omega) (by omega) 255 (by decide) (by omega)
  obtain ⟨n, hn⟩ : ∃ n, n = nOf a := ⟨_, rfl⟩
  have e1' : bits .and .u64 (a.toNat : Int) 255 = (n : Int) := by rw [e1, hn]; unfold nOf; simp only [show ((2 ^ 8 : Nat) : Int) = 256 from rfl]; omega
  clear e1
  have HL := Lib.hid hL; have HR := Lib.hid hr; have HN := Lib.hid hn
  clear hL hr
  by_cases hb : 8 < n
  · have hno : ¬ RdOk a b := fun h => by have := h.1; omega
    have hL0 : L = [] := by rw [HL.out, rdL, if_neg hno]
    have hr0 : r = 50 := by rw [HR.out, rdE, if_neg hno]
    subst hL0 hr0
    clear hn hno
    go_enter Try.func56, Try.ntmps56
    go_wp2
    go_ret2
    exact ⟨_, rfl, OwnB.nil _ _ _, B⟩
  · have hn8 : n ≤ 8 := by omega
    clear hb hn
    go_enter Try.func56, Try.ntmps56
    go_wp2
    have HB := Lib.hid B; clear B
    go_loopw [7, 16] (fun xv i wr => ∃ k : Nat, k ≤ n ∧ i = .int .u64 k ∧ Hid (OwnB wr w.heap.size 5 xv (dig a k)) ∧ Below w.heap.size w wr) (fun _ i _ => n - (intOf i).toNat)
    case atStart => exact ⟨0, by omega, rfl, Lib.hid (OwnB.nil _ _ _), HB.out⟩
    case round =>
      obtain ⟨k, hk, rfl, hh, B⟩ := hrel
      by_cases hlt : k < n
      · have hp : (2 : Int) ^ (8 + 2 * k) = ((256 * 4 ^ k : Nat) : Int) := by
          have : (2 : Nat) ^ (8 + 2 * k) = 256 * 4 ^ k := by rw [Nat.pow_add, Nat.pow_mul]
          exact_mod_cast this
        have HP := Lib.hid hp; clear hp
        obtain ⟨q, hq⟩ : ∃ q : UInt8, q = UInt8.ofNat (a.toNat / 256 / 4 ^ k % 4) := ⟨_, rfl⟩
        have hqn : q.toNat = a.toNat / 256 / 4 ^ k % 4 := by rw [hq, UInt8.toNat_ofNat']; omega
        have hql : q.toNat < 256 := q.toNat_lt
        have e2 : bits .and .u64 ((a.toNat : Int) / 2 ^ (8 + 2 * k)) 3 = (q.toNat : Int) := by
          have e3 : ((a.toNat : Int) / 2 ^ (8 + 2 * k)) = ((a.toNat / 256 / 4 ^ k : Nat) : Int) := by
            rw [HP.out, Nat.div_div_eq_div_mul]; exact (Int.natCast_ediv _ _).symm
          have h4 : a.toNat / 256 / 4 ^ k ≤ a.toNat := by rw [Nat.div_div_eq_div_mul]; exact Nat.div_le_self _ _
          rw [e3, hqn]
          generalize a.toNat / 256 / 4 ^ k = z at h4
          rw [and_int (a := (z : Int)) 2 (by omega) (by omega) 3 (by decide) (by omega)]
          exact (Int.natCast_emod z 4).symm
        have HQ := Lib.hid hq; have HO := Lib.hid hh.out; have HBB := Lib.hid B
        clear hq hqn hh B
        have hlk : (dig a k).length = k := dig_len a k
        have HLK := Lib.hid hlk; clear hlk
        go_wp2_with (at_builtin; refine wpList_append (by rfl) rfl rfl rfl Try.underlying44 info_u8 rfl (by omega) (by exact own_below HO.out ((Below.refl _ _).alloc (Nat.le_refl _) _)) (by exact lit_u8 _ q (by omega) rfl) (one_u8' q) (by rw [HLK.out]; omega) (by rw [HLK.out]; omega) (by exact HBB.out.alloc HBB.out.size _) (Nat.le_refl _) ?_; intro v1 w3 o3 B3 g3; clear g3)
        have o4 : OwnB w3 w.heap.size 5 v1 (dig a (k + 1)) := OwnB.of o3 (by rw [dig_succ, List.map_append, ← HQ.out])
        have HO4 := Lib.hid o4; have HB3 := Lib.hid B3; clear o3 o4 B3
        go_roundw
        case rel => exact ⟨k + 1, by omega, by go_num, Lib.hid HO4.out, HB3.out⟩
        case measure => simp [intOf]; omega
      · obtain rfl : k = n := by omega
        have HO := Lib.hid hh.out
        obtain ⟨l, hl⟩ : ∃ l, l = dig a k := ⟨_, rfl⟩
        rw [← hl] at HO
        obtain ⟨c, hc⟩ : ∃ c, c = w0 l := ⟨_, rfl⟩
        obtain ⟨d, hd⟩ : ∃ d, d = w1 l := ⟨_, rfl⟩
        obtain ⟨e, he⟩ : ∃ e, e = kErr l := ⟨_, rfl⟩
        have WT := fun v w h => KWrite_any v l c d e hc hd he w h
        have HW := Lib.hid WT; clear WT
        have hiff : RdOk a b ↔ e = 0 ∧ [c, d] = [a, b] := by
          unfold RdOk
          rw [← HN.out, ← hl, ← he, ← hc, ← hd]
          simp only [List.cons.injEq, and_true]
          exact ⟨fun h => ⟨h.2.1, h.2.2.1, h.2.2.2⟩, fun h => ⟨hn8, h.1, h.2.1, h.2.2⟩⟩
        have hrl : RdOk a b → L = l ∧ r = 0 := fun h => ⟨by rw [HL.out, rdL, if_pos h, ← HN.out, hl], by rw [HR.out, rdE, if_pos h]⟩
        have hrn : ¬ RdOk a b → L = [] ∧ r = 50 := fun h => ⟨by rw [HL.out, rdL, if_neg h], by rw [HR.out, rdE, if_neg h]⟩
        clear hc hd he hl hh
        have hcase : (e != 0) = true ∧ L = [] ∧ r = 50 ∨ e = 0 ∧ ((!decide ([c, d] = [a, b])) = true ∧ L = [] ∧ r = 50 ∨ (!decide ([c, d] = [a, b])) = false ∧ L = l ∧ r = 0) := by
          by_cases h1 : e = 0
          · by_cases h2 : [c, d] = [a, b]
            · have := hrl (hiff.2 ⟨h1, h2⟩)
              exact .inr ⟨h1, .inr ⟨by rw [decide_eq_true h2]; rfl, this⟩⟩
            · have := hrn (fun h => h2 (hiff.1 h).2)
              exact .inr ⟨h1, .inl ⟨by rw [decide_eq_false h2]; rfl, this⟩⟩
          · have := hrn (fun h => h1 (hiff.1 h).1)
            exact .inl ⟨by rw [bne_iff_ne]; exact h1, this⟩
        clear hiff hrl hrn
        rcases hcase with ⟨h1, rfl, rfl⟩ | ⟨rfl, ⟨h2, rfl, rfl⟩ | ⟨h2, rfl, rfl⟩⟩
        · go_wp2_with fail
          refine (HW.out _ _ HO.out.rd).mono ?_
          rintro e w3 ⟨rfl, bb⟩
          replace B := B.trans (bb.mono B.size); clear bb
          go_wp2
          go_ret2
          exact ⟨_, rfl, OwnB.nil _ _ _, B.alloc B.size _⟩
        · have q1 := fun W => pair_neq c d a b true h2.symm W
          go_wp2_with fail
          refine (HW.out _ _ HO.out.rd).mono ?_
          rintro e w3 ⟨rfl, bb⟩
          replace B := B.trans (bb.mono B.size); clear bb
          go_wp2
          go_ret2
          exact ⟨_, rfl, OwnB.nil _ _ _, B.alloc B.size _⟩
        · have q1 := fun W => pair_neq c d a b false h2.symm W
          go_wp2_with fail
          refine (HW.out _ _ HO.out.rd).mono ?_
          rintro e w3 ⟨rfl, bb⟩
          have o4 := (HO.out.below bb).below ((Below.refl _ _).alloc (Nat.le_refl _) (.cells #[.int .u64 c.toNat, .int .u64 d.toNat] 151))
          have HO4 := Lib.hid o4
          replace B := B.trans (bb.mono B.size); clear bb o4
          go_wp2
          go_ret2
          exact ⟨_, rfl, HO4.out, B.alloc B.size _⟩
end Go.Proofs.Ytbfmdbeeiicabaa
namespace Go.Proofs.Ytbfmdbeeiicabaa
open Go.RowKit L02 L05 L13
end Go.Proofs.Ytbfmdbeeiicabaa
