/- Contracts of the functions that the law 'ModelImages' reaches, part 4. No condition. -/
import Derived.Test.YtbfmdbeeiicabaaMMIsc
set_option linter.unusedVariables false
set_option linter.unusedSimpArgs false
namespace Go.Proofs.Ytbfmdbeeiicabaa.L15
open L02 L14
/-- the block that stands at an address -/
def stand (l : List UInt64) (k : Nat) : Hb := { split (l.getD k 0) with at_ := k, next := l.getD (k + 1) 0 }
def StOk (l : List UInt64) (k : Nat) : Prop := HdOk (l.getD k 0) ∧ (k : Int) + (split (l.getD k 0)).size ≤ l.length
instance (l : List UInt64) (k : Nat) : Decidable (StOk l k) := inferInstanceAs (Decidable (_ ∧ _))
def szN (l : List UInt64) (k : Nat) : Nat := (split (l.getD k 0)).size.toNat
/-- the blocks from an address on, in at most f steps -/
def fromF (l : List UInt64) : Nat → Nat → Option (List Hb)
  | 0, k => if k = l.length then some [] else none
  | f + 1, k => if k = l.length then some [] else if StOk l k then (fromF l f (k + szN l k)).map (stand l k :: ·) else none
def from_ (l : List UInt64) (k : Nat) : Option (List Hb) := fromF l (l.length - k) k
/-- two free extents side by side -/
def Adj : List Hb → Prop
  | a :: b :: L => (a.kind = 2 ∧ b.kind = 2) ∨ Adj (b :: L)
  | _ => False
instance adjDec : (L : List Hb) → Decidable (Adj L)
  | [] => inferInstanceAs (Decidable False)
  | [_] => inferInstanceAs (Decidable False)
  | a :: b :: L => by
    have := adjDec (b :: L)
    exact inferInstanceAs (Decidable ((a.kind = 2 ∧ b.kind = 2) ∨ Adj (b :: L)))
def parsed (l : List UInt64) : Option (List Hb) := match from_ l 128 with | some L => if Adj L then none else some L | none => none
def fromErr (l : List UInt64) (a : Int) : Int := if SizeOk l.length then (if 128 ≤ a ∧ a ≤ l.length ∧ a % 2 = 0 then (if (from_ l a.toNat).isSome then 0 else 50) else 2) else 8
def fromL (l : List UInt64) (a : Int) : List Hb := if fromErr l a = 0 then (from_ l a.toNat).getD [] else []
def allErr (l : List UInt64) : Int := if SizeOk l.length then (if (parsed l).isSome then 0 else 50) else 8
def allL (l : List UInt64) : List Hb := (if allErr l = 0 then (parsed l).getD [] else [])
theorem szN_ge {l : List UInt64} {k : Nat} (h : StOk l k) : 2 ≤ szN l k ∧ (szN l k : Int) = (split (l.getD k 0)).size ∧ szN l k % 2 = 0 ∧ k + szN l k ≤ l.length ∧ szN l k ≤ 1920 := by
  obtain ⟨h1, h2⟩ := h
  have := (split_ok h1).bounds
  unfold szN
  omega
theorem fromF_more {l : List UInt64} : ∀ (f k : Nat), l.length - k ≤ f → k ≤ l.length → fromF l f k = fromF l (l.length - k) k
  | 0, k, h, hk => by rw [show l.length - k = 0 by omega]
  | f + 1, k, h, hk => by
    by_cases hl : k = l.length
    · subst hl
      rw [Nat.sub_self, fromF, fromF, if_pos rfl, if_pos rfl]
    · obtain ⟨d, hd⟩ : ∃ d, l.length - k = d + 1 := ⟨l.length - k - 1, by omega⟩
      rw [hd, fromF, fromF, if_neg hl, if_neg hl]
      by_cases hs : StOk l k
      · rw [if_pos hs, if_pos hs]
        have hz := szN_ge hs
        rw [fromF_more f _ (by omega) hz.2.2.2.1, fromF_more d _ (by omega) hz.2.2.2.1]
      · rw [if_neg hs, if_neg hs]
termination_by f => f
theorem from_end {l : List UInt64} : from_ l l.length = some [] := by rw [from_, Nat.sub_self, fromF, if_pos rfl]
theorem from_no {l : List UInt64} {k : Nat} (hk : k < l.length) (h : ¬ StOk l k) : from_ l k = none := by
  obtain ⟨d, hd⟩ : ∃ d, l.length - k = d + 1 := ⟨l.length - k - 1, by omega⟩
  rw [from_, hd, fromF, if_neg (by omega), if_neg h]
theorem from_step {l : List UInt64} {k : Nat} (hk : k < l.length) (h : StOk l k) : from_ l k = (from_ l (k + szN l k)).map (stand l k :: ·) := by
  obtain ⟨d, hd⟩ : ∃ d, l.length - k = d + 1 := ⟨l.length - k - 1, by omega⟩
  have hz := szN_ge h
  rw [from_, hd, fromF, if_neg (by omega), if_pos h, fromF_more d _ (by omega) hz.2.2.2.1]; rfl
theorem from_past {l : List UInt64} {k : Nat} (hk : l.length < k) : from_ l k = none := by
  rw [from_, show l.length - k = 0 by omega, fromF, if_neg (by omega)]
/-- a chain of blocks: each one stands at the end of the one before -/
inductive Chain (l : List UInt64) : Nat → List Hb → Prop where
  | nil : Chain l l.length []
  | cons {k : Nat} {L : List Hb} : k < l.length → StOk l k → Chain l (k + szN l k) L → Chain l k (stand l k :: L)
theorem chain_of {l : List UInt64} : ∀ (n k : Nat) (L : List Hb), l.length - k ≤ n → from_ l k = some L → Chain l k L
  | n, k, L, hn, h => by
    by_cases hl : k = l.length
    · subst hl
      rw [from_end] at h; injection h with h; subst h; exact .nil
    · by_cases hk : k < l.length
      · by_cases hs : StOk l k
        · rw [from_step hk hs] at h
          have hz := szN_ge hs
          cases h2 : from_ l (k + szN l k) with
          | none => rw [h2] at h; cases h
          | some L' =>
            rw [h2] at h; injection h with h; subst h
            match n, hn with
            | n + 1, hn => exact .cons hk hs (chain_of n _ _ (by omega) h2)
            | 0, hn => omega
        · rw [from_no hk hs] at h; cases h
      · rw [from_past (by omega)] at h; cases h
termination_by n => n
theorem from_chain {l : List UInt64} {k : Nat} {L : List Hb} (h : Chain l k L) : from_ l k = some L := by
  induction h with
  | nil => exact from_end
  | cons hk hs _ ih => rw [from_step hk hs, ih]; rfl
theorem chain_iff {l : List UInt64} {k : Nat} {L : List Hb} : from_ l k = some L ↔ Chain l k L := ⟨chain_of _ _ _ (Nat.le_refl _), from_chain⟩
/-- all blocks of a chain -/
theorem chain_mem {l : List UInt64} {k : Nat} {L : List Hb} (h : Chain l k L) : ∀ b ∈ L, ∃ a : Nat, k ≤ a ∧ a < l.length ∧ StOk l a ∧ b = stand l a ∧ (k % 2 = 0 → a % 2 = 0) := by
  induction h with
  | nil => intro b hb; cases hb
  | cons hk hs hc ih =>
    intro b hb
    rcases List.mem_cons.1 hb with rfl | hb
    · exact ⟨_, Nat.le_refl _, hk, hs, rfl, id⟩
    · obtain ⟨a, h1, h2, h3, h4, h5⟩ := ih b hb
      have := szN_ge hs
      exact ⟨a, by omega, h2, h3, h4, fun h => h5 (by omega)⟩
theorem stand_ok {l : List UInt64} {k : Nat} (h : StOk l k) : BkOk (stand l k) := ok_bare.2 (split_ok h.1)
theorem stand_at (l : List UInt64) (k : Nat) : (stand l k).at_ = k := rfl
theorem stand_size {l : List UInt64} {k : Nat} (h : StOk l k) : (stand l k).size = szN l k := (szN_ge h).2.1.symm
theorem chain_len {l : List UInt64} {k : Nat} {L : List Hb} (h : Chain l k L) : 2 * L.length + k ≤ l.length := by
  induction h with
  | nil => simp
  | cons hk hs hc ih => have := szN_ge hs; simp only [List.length_cons]; omega
theorem parsed_ok {l : List UInt64} {L : List Hb} : parsed l = some L ↔ from_ l 128 = some L ∧ ¬ Adj L := by
  unfold parsed
  generalize from_ l 128 = x
  cases x with
  | none => simp
  | some M =>
    by_cases ha : Adj M
    · simp only [if_pos ha]
      refine ⟨fun e => (by cases e), fun h => ?_⟩
      obtain ⟨e, hn⟩ := h
      have := Option.some.inj e
      subst this
      exact absurd ha hn
    · simp only [if_neg ha]
      refine ⟨fun e => ?_, fun h => h.1⟩
      have := Option.some.inj e
      subst this
      exact ⟨rfl, ha⟩
theorem allErr_ok {l : List UInt64} (h : allErr l = 0) : SizeOk l.length ∧ parsed l = some (allL l) := by
  have h' := h
  unfold allErr at h
  split at h
  · split at h
    · rename_i h1 h2
      obtain ⟨L, hL⟩ := Option.isSome_iff_exists.1 h2
      exact ⟨h1, by simp only [allL, h', hL, if_true, Option.getD_some]⟩
    · omega
  · omega
theorem adj_iff : ∀ {L : List Hb}, Adj L ↔ ∃ (i : Nat) (a b : Hb), L[i]? = some a ∧ L[i + 1]? = some b ∧ a.kind = 2 ∧ b.kind = 2
  | [] => ⟨False.elim, fun ⟨_, _, _, h, _⟩ => by simp at h⟩
  | [x] => ⟨False.elim, fun ⟨i, _, _, _, h, _⟩ => by simp at h⟩
  | x :: y :: L => by
    rw [Adj, adj_iff (L := y :: L)]
    constructor
    · rintro (⟨h1, h2⟩ | ⟨i, a, b, h⟩)
      · exact ⟨0, x, y, rfl, rfl, h1, h2⟩
      · exact ⟨i + 1, a, b, h⟩
    · rintro ⟨i, a, b, h1, h2, h3, h4⟩
      rcases i with _ | i
      · simp at h1 h2; subst h1; subst h2; exact .inl ⟨h3, h4⟩
      · exact .inr ⟨i, a, b, h1, h2, h3, h4⟩
end Go.Proofs.Ytbfmdbeeiicabaa.L15
namespace Go.Proofs.Ytbfmdbeeiicabaa
open Go.RowKit L02 L14 L15
def bkL (b : Hb) : List Value := [.int .i64 b.at_, .int .i64 b.size, .int .i64 b.kind, .int .i64 b.ty, .bool b.mark, .int .u64 b.next.toNat]
def tabB (L : List Hb) : List Value := L.flatMap bkL
theorem tabB_len (L : List Hb) : (tabB L).length = L.length * 6 := by
  induction L with
  | nil => rfl
  | cons s L ih => rw [tabB, List.flatMap_cons, List.length_append, ← tabB, ih]; simp [bkL]; omega
theorem tabB_get : ∀ (L : List Hb) (k : Nat) (s : Hb), L[k]? = some s → ∀ i, i < 6 → (tabB L)[k * 6 + i]? = (bkL s)[i]?
  | [], _, _, h, _, _ => by cases h
  | t :: L, 0, s, h, i, hi => by
    simp at h; subst h
    rw [tabB, List.flatMap_cons, Nat.zero_mul, Nat.zero_add, List.getElem?_append_left (by simpa [bkL] using hi)]
  | t :: L, k + 1, s, h, i, hi => by
    rw [tabB, List.flatMap_cons, List.getElem?_append_right (by simp [bkL]; omega)]
    rw [show (k + 1) * 6 + i - (bkL t).length = k * 6 + i by simp [bkL]; omega]
    exact tabB_get L k s (by simpa using h) i hi
theorem bkL_one (s : Hb) : ∀ u ∈ bkL s, u.oneCell' = true := by
  intro u hu
  simp [bkL] at hu
  rcases hu with rfl | rfl | rfl | rfl | rfl | rfl <;> rfl
theorem tabB_snoc (L : List Hb) (s : Hb) : tabB L ++ bkL s = tabB (L ++ [s]) := by simp [tabB, List.flatMap_append]
theorem size_block : (Try.prog.info? 38).map (·.size) = some 6 := by kernel_rfl
theorem info_block : (Try.prog.info? 38).map (fun i => (i.zero, i.size, i.bytes)) = some (some (.agg #[.int .i64 0, .int .i64 0, .int .i64 0, .int .i64 0, .bool false, .int .u64 0]), 6, 48) := by kernel_rfl
/-- A slice of blocks. -/
def Blks (w : World) (v : Value) (L : List Hb) : Prop := Rd w 6 v L.length (tabB L)
def OwnK (w : World) (base : Nat) (v : Value) (L : List Hb) : Prop := w.ownsRow base 38 6 v L.length (tabB L)
theorem OwnK.rd {w : World} {base : Nat} {v : Value} {L : List Hb} (h : OwnK w base v L) : Blks w v L := Rd.of_own h
theorem Blks.below {w w' : World} {v : Value} {L : List Hb} (h : Blks w v L) (hb : Below w.heap.size w w') : Blks w' v L := Rd.below h hb
theorem OwnK.below {w w' : World} {base : Nat} {v : Value} {L : List Hb} (h : OwnK w base v L) (hb : Below w.heap.size w w') : OwnK w' base v L := own_below h hb
theorem OwnK.mono {w : World} {base base' : Nat} {v : Value} {L : List Hb} (h : OwnK w base v L) (hb : base' ≤ base) : OwnK w base' v L := own_mono h hb
theorem OwnK.nil (w : World) (base : Nat) : OwnK w base (.slice none 0 0) [] := World.ownsRow_nil w base _ 6
theorem Blks.nil (w : World) : Blks w (.slice none 0 0) [] := (OwnK.nil w 0).rd
theorem OwnK.of {w : World} {B n : Nat} {v : Value} {xs : List Value} {L : List Hb} (h : w.ownsRow B 38 6 v n xs) (hx : xs = tabB L) : OwnK w B v L := by
  subst hx
  have hn : n = L.length := by have := h.1; rw [tabB_len] at this; omega
  subst hn; exact h
theorem Blks.len {w : World} {v : Value} {L : List Hb} (h : Blks w v L) : ∀ ty W, (Builtin.len_ #[26] ty #[v]).run Try.prog W = .ok (.int .i64 (L.length : Int)) W := Rd.len h Try.underlying26
theorem Blks.len_le {w : World} {v : Value} {L : List Hb} (h : Blks w v L) : L.length ≤ 9223372036854775807 := Rd.len_le h
theorem Blks.form {w : World} {v : Value} {L : List Hb} (h : Blks w v L) : ∃ A c, v = .slice A L.length c := by
  obtain ⟨A, c, e, _⟩ := h; exact ⟨A, c, e⟩
theorem lit_block {w : World} {e : TypeId} {n : Nat} (s : Hb) (hn : w.heap.size = n) : Rd (w.alloc (.cells #[.int .i64 s.at_, .int .i64 s.size, .int .i64 s.kind, .int .i64 s.ty, .bool s.mark, .int .u64 s.next.toNat] e)) 6 (.slice (some ⟨n, 0, none⟩) 1 1) 1 (bkL s) := by
  subst hn; exact lit_rdK (n := 1) (sz := 6) rfl (by omega)
/-- a block of a slice -/
theorem Blks.at_ {w : World} {v : Value} {L : List Hb} (h : Blks w v L) {k : Nat} (hk : k < L.length) :
    ∃ b o s, (∀ W, (Instr.indexAt 26 v (.int .i64 (k : Int))).run Try.prog W = .ok (.pointer (some ⟨b, o, none⟩)) W) ∧ w.cell? ⟨b, o, none⟩ = some (.int .i64 s.at_) ∧ w.cell? ⟨b, o + 1, none⟩ = some (.int .i64 s.size) ∧ w.cell? ⟨b, o + 2, none⟩ = some (.int .i64 s.kind) ∧ w.cell? ⟨b, o + 3, none⟩ = some (.int .i64 s.ty) ∧ w.cell? ⟨b, o + 4, none⟩ = some (.bool s.mark) ∧ w.cell? ⟨b, o + 5, none⟩ = some (.int .u64 s.next.toNat) ∧ Hid (L[k]? = some s) ∧ b < w.heap.size := by
  have hix := fun W => Rd.ixN (P := Try.prog) h Try.underlying26 size_block hk W
  obtain ⟨b, o, c, rfl, hb, hc, hcell⟩ := Rd.form h (by omega)
  have hs : L[k]? = some L[k] := List.getElem?_eq_getElem hk
  have t0 := tabB_get L k _ hs 0 (by omega)
  have t1 := tabB_get L k _ hs 1 (by omega)
  have t2 := tabB_get L k _ hs 2 (by omega)
  have t3 := tabB_get L k _ hs 3 (by omega)
  have t4 := tabB_get L k _ hs 4 (by omega)
  have t5 := tabB_get L k _ hs 5 (by omega)
  exact ⟨b, o + k * 6, L[k], fun W => hix W, hcell _ _ t0, hcell _ _ t1, hcell _ _ t2, hcell _ _ t3, hcell _ _ t4, hcell _ _ t5, Lib.hid hs, hb⟩
end Go.Proofs.Ytbfmdbeeiicabaa
namespace Go.Proofs.Ytbfmdbeeiicabaa
open Go.RowKit L01 L02 L05 L14 L15
/-- the worlds of two stores into a block -/
def wsK (W : World) (g : Nat) (a : Int) (x : Nat) : Nat → World
  | 0 => W.drew
  | 1 => W.drew.setCell ⟨g, 0, none⟩ (.int .i64 a)
  | _ + 2 => (W.drew.setCell ⟨g, 0, none⟩ (.int .i64 a)).setCell ⟨g, 5, none⟩ (.int .u64 x)
theorem stOk_of {l : List UInt64} {k : Nat} {x : UInt64} (hx : l[k]? = some x) : StOk l k ↔ HdOk x ∧ (k : Int) + (split x).size ≤ l.length := by
  unfold StOk
  rw [show l.getD k 0 = x by rw [List.getD_eq_getElem?_getD, hx]; rfl]
set_option maxRecDepth 100000 in
set_option maxHeartbeats 2000000 in
theorem stands_any (v : Value) (l : List UInt64) (k : Nat) (b : Hb) (r : Int) (hk : k < l.length) (hb : b = if StOk l k then stand l k else .none) (hr : r = if StOk l k then 0 else 50) (w : World) (h : Words w v l) :
    Calls Try.prog 93 #[v, .int .i64 k] w fun e w' => e = .returned (.tuple #[.agg #[.int .i64 b.at_, .int .i64 b.size, .int .i64 b.kind, .int .i64 b.ty, .bool b.mark, .int .u64 b.next.toNat], .int .i64 r]) ∧ Below w.heap.size w w' := by
  have B : Below w.heap.size w w := Below.refl _ _
  have H := Lib.hid h
  have hlen := Rd.len_le h
  have lw := Rd.len h Try.underlying22
  obtain ⟨ad, x, ia, m0, hx⟩ := h.at_ (P := Try.prog) Try.underlying22 one_u64 hk
  obtain ⟨N, hN⟩ : ∃ N, N = l.length := ⟨_, rfl⟩
  rw [← hN] at lw hlen
  have hst := stOk_of hx.out
  obtain ⟨s, hs⟩ : ∃ s, s = split x := ⟨_, rfl⟩
  obtain ⟨z, hz⟩ : ∃ z, z = splE x := ⟨_, rfl⟩
  have ST := Lib.hid (fun w => HSplit_any x s z hs hz w)
  have hgk : l.getD k 0 = x := by rw [List.getD_eq_getElem?_getD, hx.out]; rfl
  by_cases hd : HdOk x
  · have hz0 : z = 0 := by rw [hz, splE, if_pos hd]
    subst hz0
    obtain ⟨s1, s2, s3, s4, s5, s6⟩ := (by rw [hs]; exact (split_ok hd).bounds : 2 ≤ s.size ∧ s.size % 2 = 0 ∧ s.size ≤ 1920 ∧ (s.kind = 1 ∨ s.kind = 2) ∧ 0 ≤ s.ty ∧ s.ty < 8)
    have hw : IntKind.i64.wrap ((N : Int) - (k : Int)) = (N : Int) - k := IntWalk.i64_in _ (by omega)
    by_cases hl : (k : Int) + s.size ≤ N
    · have hok : StOk l k := hst.2 ⟨hd, by rw [← hs, ← hN]; exact hl⟩
      obtain ⟨ad2, y, ia2, m1, hy⟩ := h.at_ (P := Try.prog) Try.underlying22 one_u64 (k := k + 1) (by omega)
      have hr0 : r = 0 := by rw [hr, if_pos hok]
      have hb0 : b = ⟨k, s.size, s.kind, s.ty, s.mark, y⟩ := by
        rw [hb, if_pos hok, stand, hgk, ← hs, show l.getD (k + 1) 0 = y by rw [List.getD_eq_getElem?_getD, hy.out]; rfl]
      have hw1 : IntKind.i64.wrap ((k : Int) + 1) = (k : Int) + 1 := IntWalk.i64_in _ (by omega)
      have ia3 : ∀ W, (Instr.indexAt 22 v (.int .i64 ((k : Int) + 1))).run Try.prog W = .ok (.pointer (some ad2)) W := ia2
      have n1 : ¬ ((N : Int) - k < s.size) := by omega
      have n2 : decide ((N : Int) - k < s.size) = false := decide_eq_false n1
      have hs0 : s.at_ = 0 := by rw [hs, split_told hd]; rfl
      have hs5 : s.next = 0 := by rw [hs, split_told hd]; rfl
      obtain ⟨sa, sz, sk, sty, sm, sn⟩ := s
      dsimp only at *
      subst hs0; subst hs5; subst hr0; subst hb0
      have ST' : Hid (∀ w, Calls Try.prog 129 #[.int .u64 x.toNat] w fun e w' => e = .returned (.tuple #[.agg #[.int .i64 0, .int .i64 sz, .int .i64 sk, .int .i64 sty, .bool sm, .int .u64 0], .int .i64 0]) ∧ Below w.heap.size w w') := ST
      have HK := Lib.hid (And.intro hk hN)
      have M0 := Lib.hid m1
      clear hst hs hz hgk hd hl hok hb hr hx hy h ST hk hN
      go_enter Try.func93, Try.ntmps93
      go_upto_region 1 with (fail)
      refine wp_gen (fun Wv => Bx Wv (w.heap.size) (38) (#[.int .i64 0, .int .i64 0, .int .i64 0, .int .i64 0, .bool false, .int .u64 0]) ∧ Below w.heap.size w Wv) ⟨((Bx.at_ (by simp))), ((Below.refl _ w).alloc (by simp <;> omega) _)⟩ ?_
      rintro wa1 ⟨g1, b⟩
      replace m0 := cell_later b m0; replace m1 := cell_later b m1; replace B := B.trans (b.mono B.size); clear b
      have c_g1 := g1.cell; have f_g1 := g1.free; have a_g1 := fun o => (g1.alloc o).cell; have d_g1 := fun o o2 => ((g1.alloc o).alloc o2).cell; have e_g1 := fun o => (g1.alloc o).free
      go_wp2_with fail
      refine (ST'.out _).mono ?_
      rintro e wa2 ⟨rfl, b⟩
      replace m0 := cell_later b m0; replace m1 := cell_later b m1; try clear c_g1 f_g1 a_g1 d_g1 e_g1
      replace g1 := g1.below b; have c_g1 := g1.cell; have f_g1 := g1.free; have a_g1 := fun o => (g1.alloc o).cell; have d_g1 := fun o o2 => ((g1.alloc o).alloc o2).cell; have e_g1 := fun o => (g1.alloc o).free; replace B := B.trans (b.mono B.size); clear b
      have hl1 : w.heap.size < wa2.heap.size := g1.lt
      go_upto_region 2 with (fail)
      refine wp_gen (fun Wv => Bx Wv (wa2.heap.size) (38) (#[.int .i64 0, .int .i64 sz, .int .i64 sk, .int .i64 sty, .bool sm, .int .u64 0]) ∧ Below wa2.heap.size wa2 Wv) ⟨((Bx.at_ (by simp))), ((Below.refl _ wa2).alloc (by simp <;> omega) _)⟩ ?_
      rintro wa3 ⟨g2, b⟩
      replace m0 := cell_later b m0; replace m1 := cell_later b m1; try clear c_g1 f_g1 a_g1 d_g1 e_g1
      replace g1 := g1.below b; have c_g1 := g1.cell; have f_g1 := g1.free; have a_g1 := fun o => (g1.alloc o).cell; have d_g1 := fun o o2 => ((g1.alloc o).alloc o2).cell; have e_g1 := fun o => (g1.alloc o).free; replace B := B.trans (b.mono B.size); clear b
      have c_g2 := g2.cell; have f_g2 := g2.free; have a_g2 := fun o => (g2.alloc o).cell; have d_g2 := fun o o2 => ((g2.alloc o).alloc o2).cell; have e_g2 := fun o => (g2.alloc o).free
      go_upto_region 4 with (fail)
      have hz2 := B.size
      have hp := g2.lt
      have k0 := g2.cell 0; have k5 := (g2.set (i := 0) (.int .i64 (k : Int))).cell 5; have kf := g2.free
      have ne : w.heap.size ≠ wa2.heap.size := by omega
      have A1 : ∀ d, d ≤ 2 → Bx (wsK wa3 wa2.heap.size k y.toNat d) w.heap.size 38 #[.int .i64 0, .int .i64 0, .int .i64 0, .int .i64 0, .bool false, .int .u64 0] := by
        intro d hd
        rcases d with _ | _ | d
        · exact g1
        · exact Bx.far (w := wa3.drew) g1 (p := ⟨wa2.heap.size, 0, none⟩) ne _
        · exact (Bx.far (w := wa3.drew) g1 (p := ⟨wa2.heap.size, 0, none⟩) ne _).far (p := ⟨wa2.heap.size, 5, none⟩) ne _
      have BW : ∀ d, d ≤ 2 → Below w.heap.size w (wsK wa3 wa2.heap.size k y.toNat d) := by
        intro d hd
        rcases d with _ | _ | d
        · exact B.drew
        · exact (B.drew).setCell (p := ⟨wa2.heap.size, 0, none⟩) (by show w.heap.size ≤ wa2.heap.size; omega) _
        · exact ((B.drew).setCell (p := ⟨wa2.heap.size, 0, none⟩) (by show w.heap.size ≤ wa2.heap.size; omega) _).setCell (p := ⟨wa2.heap.size, 5, none⟩) (by show w.heap.size ≤ wa2.heap.size; omega) _
      have BX : ∀ d, d ≤ 2 → Below wa3.heap.size wa3 (wsK wa3 wa2.heap.size k y.toNat d) → True := fun _ _ _ => trivial
      have M1 : ∀ d, d ≤ 2 → (wsK wa3 wa2.heap.size k y.toNat d).cell? ad2 = some (.int .u64 y.toNat) := by
        intro d hd
        exact cell_later (BW d hd) M0.out
      have G2 : Bx (wsK wa3 wa2.heap.size k y.toNat 2) wa2.heap.size 38 #[.int .i64 k, .int .i64 sz, .int .i64 sk, .int .i64 sty, .bool sm, .int .u64 y.toNat] :=
        ((Bx.set (w := wa3.drew) g2 (i := 0) (.int .i64 (k : Int))).set (i := 5) (.int .u64 y.toNat))
      have a1 := fun x : FXN (FL [7, 9] (wsK wa3 wa2.heap.size k y.toNat) 7 2) => (FL.all (ks := [7, 9]) (Ws := wsK wa3 wa2.heap.size k y.toNat) (p := fun V => V.cell? ad2 = some (.int .u64 y.toNat)) M1 x)
      have HX := Lib.hid (And.intro (A1 2 (by omega)) (And.intro G2 (BW 2 (by omega))))
      have s0 : wa3.cell? ⟨wa2.heap.size, 0, none⟩ = some (.int .i64 0) := g2.cell 0
      have s1 : ∀ i, wa3.frozen? ⟨wa2.heap.size, i, none⟩ = false := g2.free
      have s2 : (wa3.setCell ⟨wa2.heap.size, 0, none⟩ (.int .i64 k)).cell? ⟨wa2.heap.size, 5, none⟩ = some (.int .u64 0) := (g2.set (i := 0) (.int .i64 (k : Int))).cell 5
      clear A1 BW BX M1 G2 k0 k5 kf c_g1 f_g1 a_g1 d_g1 e_g1 c_g2 f_g2 a_g2 d_g2 e_g2 m0 m1
      haveI : Nonempty (FXN (FL [7, 9] (wsK wa3 wa2.heap.size k y.toNat) 7 2)) := ⟨⟨_, _, FL.start⟩⟩
      refine wp_region_N (FL [7, 9] (wsK wa3 wa2.heap.size k y.toNat) 7 2) [7, 7, 9] FL.dep (by kernel_rfl) (by kernel_rfl) (by kernel_rfl) FL.start ?_
      iterate 7 (refine wpN_read FL.dep rfl (by decide) ?_; go_big_quiet_step (fail); refine wpQuiet_nil ?_)
      refine wpN_storeD FL.dep rfl 3 (.tmp 34) (.tmp 28) rfl (by rfl) (p := .pointer (some ⟨wa2.heap.size, 0, none⟩)) (u := .int .i64 k) (by rfl) (by rfl) [] (by kernel_rfl) (fun f W' hF h0 h1 => ?_) ?_
      · obtain ⟨rfl, h2⟩ := FL.step (i := 0) rfl (by decide) hF h0 (by intro p hp; omega) (by omega)
        refine ⟨_, ?_, h2⟩
        simp [go_sem, wsK, s0, s1]
      simp only [Act.put, List.setIfInBounds_toArray, List.set_cons_zero, List.set_cons_succ]
      iterate 1 (refine wpN_read FL.dep rfl (by decide) ?_; go_big_quiet_step (fail); refine wpQuiet_nil ?_)
      refine wpN_storeD FL.dep rfl 34 (.tmp 35) (.tmp 33) rfl (by rfl) (p := .pointer (some ⟨wa2.heap.size, 5, none⟩)) (u := .int .u64 y.toNat) (by rfl) (by rfl) [7] (by kernel_rfl) (fun f W' hF h0 h1 => ?_) ?_
      · obtain ⟨rfl, h2⟩ := FL.step (i := 1) rfl (by decide) hF h0 (FL.prev rfl (h1 7 (by simp))) (by omega)
        refine ⟨_, ?_, h2⟩
        simp [go_sem, wsK, s2, s1]
      simp only [Act.put, List.setIfInBounds_toArray, List.set_cons_zero, List.set_cons_succ]
      show ∀ w', _ → _
      intro w' hw'
      obtain rfl := FL.done hw'
      clear a1 s0 s1 s2 hw'
      have hW : wsK wa3 wa2.heap.size k y.toNat ([7, 9] : List Nat).length = wsK wa3 wa2.heap.size k y.toNat 2 := rfl
      rw [hW]
      generalize wsK wa3 wa2.heap.size k y.toNat 2 = V at HX ⊢
      obtain ⟨g1, g2, B⟩ := HX.out
      have c_g1 := g1.cell; have c_g2 := g2.cell; have f_g1 := g1.free; have f_g2 := g2.free
      go_wp2
      refine bodyPost_ret (v := .tuple #[.agg #[.int .i64 k, .int .i64 sz, .int .i64 sk, .int .i64 sty, .bool sm, .int .u64 y.toNat], .int .i64 0]) (by simp [results, Try.results93, go_sem, c_g1, c_g2, f_g1, f_g2, ne]) rfl ?_
      refine ⟨rfl, ?_⟩
      (repeat (first | refine Below.setCell ?_ (by first | exact Nat.le_refl _ | (simp <;> omega)) _ | refine Below.alloc ?_ (by first | exact B.size | (have := B.size; simp <;> omega)) _)); exact B
    · have hno : ¬ StOk l k := fun h => hl (by have := (hst.1 h).2; rw [← hs, ← hN] at this; exact this)
      have hr0 : r = 50 := by rw [hr, if_neg hno]
      have hb0 : b = .none := by rw [hb, if_neg hno]
      have n1 : (N : Int) - k < s.size := by omega
      subst hr0; subst hb0
      clear hst hs hz hgk hd hl hno hb hr hx h hN hk
      go_enter Try.func93, Try.ntmps93
      go_upto_region 1 with (fail)
      refine wp_gen (fun Wv => Bx Wv (w.heap.size) (38) (#[.int .i64 0, .int .i64 0, .int .i64 0, .int .i64 0, .bool false, .int .u64 0]) ∧ Below w.heap.size w Wv) ⟨((Bx.at_ (by simp))), ((Below.refl _ w).alloc (by simp <;> omega) _)⟩ ?_
      rintro wa1 ⟨g1, b⟩
      replace m0 := cell_later b m0; replace B := B.trans (b.mono B.size); clear b
      have c_g1 := g1.cell; have f_g1 := g1.free; have a_g1 := fun o => (g1.alloc o).cell; have d_g1 := fun o o2 => ((g1.alloc o).alloc o2).cell; have e_g1 := fun o => (g1.alloc o).free
      go_wp2_with fail
      refine (ST.out _).mono ?_
      rintro e wa2 ⟨rfl, b⟩
      replace m0 := cell_later b m0; try clear c_g1 f_g1 a_g1 d_g1 e_g1
      replace g1 := g1.below b; have c_g1 := g1.cell; have f_g1 := g1.free; have a_g1 := fun o => (g1.alloc o).cell; have d_g1 := fun o o2 => ((g1.alloc o).alloc o2).cell; have e_g1 := fun o => (g1.alloc o).free; replace B := B.trans (b.mono B.size); clear b
      go_upto_region 2 with (fail)
      refine wp_gen (fun Wv => Bx Wv (wa2.heap.size) (38) (#[.int .i64 s.at_, .int .i64 s.size, .int .i64 s.kind, .int .i64 s.ty, .bool s.mark, .int .u64 s.next.toNat]) ∧ Below wa2.heap.size wa2 Wv) ⟨((Bx.at_ (by simp))), ((Below.refl _ wa2).alloc (by simp <;> omega) _)⟩ ?_
      rintro wa3 ⟨g2, b⟩
      replace m0 := cell_later b m0; try clear c_g1 f_g1 a_g1 d_g1 e_g1
      replace g1 := g1.below b; have c_g1 := g1.cell; have f_g1 := g1.free; have a_g1 := fun o => (g1.alloc o).cell; have d_g1 := fun o o2 => ((g1.alloc o).alloc o2).cell; have e_g1 := fun o => (g1.alloc o).free; replace B := B.trans (b.mono B.size); clear b
      have c_g2 := g2.cell; have f_g2 := g2.free; have a_g2 := fun o => (g2.alloc o).cell; have d_g2 := fun o o2 => ((g2.alloc o).alloc o2).cell; have e_g2 := fun o => (g2.alloc o).free
      go_wp2
      refine bodyPost_ret (v := .tuple #[.agg #[.int .i64 0, .int .i64 0, .int .i64 0, .int .i64 0, .bool false, .int .u64 0], .int .i64 50]) (by simp [results, Try.results93, go_sem, c_g1, f_g1, a_g1, e_g1, c_g2, f_g2, a_g2, e_g2]) rfl ?_
      refine ⟨rfl, ?_⟩
      (repeat (first | refine Below.setCell ?_ (by first | exact Nat.le_refl _ | (simp <;> omega)) _ | refine Below.alloc ?_ (by first | exact B.size | (have := B.size; simp <;> omega)) _)); exact B
  · have hz0 : z = 50 := by rw [hz, splE, if_neg hd]
    have hno : ¬ StOk l k := fun h => hd (hst.1 h).1
    have hr0 : r = 50 := by rw [hr, if_neg hno]
    have hb0 : b = .none := by rw [hb, if_neg hno]
    subst hr0; subst hb0; subst hz0
    clear hst hs hz hgk hd hno hb hr hx h hN hk
    go_enter Try.func93, Try.ntmps93
    go_upto_region 1 with (fail)
    refine wp_gen (fun Wv => Bx Wv (w.heap.size) (38) (#[.int .i64 0, .int .i64 0, .int .i64 0, .int .i64 0, .bool false, .int .u64 0]) ∧ Below w.heap.size w Wv) ⟨((Bx.at_ (by simp))), ((Below.refl _ w).alloc (by simp <;> omega) _)⟩ ?_
    rintro wa1 ⟨g1, b⟩
    replace m0 := cell_later b m0; replace B := B.trans (b.mono B.size); clear b
    have c_g1 := g1.cell; have f_g1 := g1.free; have a_g1 := fun o => (g1.alloc o).cell; have d_g1 := fun o o2 => ((g1.alloc o).alloc o2).cell; have e_g1 := fun o => (g1.alloc o).free
    go_wp2_with fail
    refine (ST.out _).mono ?_
    rintro e wa2 ⟨rfl, b⟩
    replace m0 := cell_later b m0; try clear c_g1 f_g1 a_g1 d_g1 e_g1
    replace g1 := g1.below b; have c_g1 := g1.cell; have f_g1 := g1.free; have a_g1 := fun o => (g1.alloc o).cell; have d_g1 := fun o o2 => ((g1.alloc o).alloc o2).cell; have e_g1 := fun o => (g1.alloc o).free; replace B := B.trans (b.mono B.size); clear b
    go_upto_region 2 with (fail)
    refine wp_gen (fun Wv => Bx Wv (wa2.heap.size) (38) (#[.int .i64 s.at_, .int .i64 s.size, .int .i64 s.kind, .int .i64 s.ty, .bool s.mark, .int .u64 s.next.toNat]) ∧ Below wa2.heap.size wa2 Wv) ⟨((Bx.at_ (by simp))), ((Below.refl _ wa2).alloc (by simp <;> omega) _)⟩ ?_
    rintro wa3 ⟨g2, b⟩
    replace m0 := cell_later b m0; try clear c_g1 f_g1 a_g1 d_g1 e_g1
    replace g1 := g1.below b; have c_g1 := g1.cell; have f_g1 := g1.free; have a_g1 := fun o => (g1.alloc o).cell; have d_g1 := fun o o2 => ((g1.alloc o).alloc o2).cell; have e_g1 := fun o => (g1.alloc o).free; replace B := B.trans (b.mono B.size); clear b
    have c_g2 := g2.cell; have f_g2 := g2.free; have a_g2 := fun o => (g2.alloc o).cell; have d_g2 := fun o o2 => ((g2.alloc o).alloc o2).cell; have e_g2 := fun o => (g2.alloc o).free
    go_wp2
    refine bodyPost_ret (v := .tuple #[.agg #[.int .i64 0, .int .i64 0, .int .i64 0, .int .i64 0, .bool false, .int .u64 0], .int .i64 50]) (by simp [results, Try.results93, go_sem, c_g1, f_g1, a_g1, e_g1, c_g2, f_g2, a_g2, e_g2]) rfl ?_
    refine ⟨rfl, ?_⟩
    (repeat (first | refine Below.setCell ?_ (by first | exact Nat.le_refl _ | (simp <;> omega)) _ | refine Below.alloc ?_ (by first | exact B.size | (have := B.size; simp <;> omega)) _)); exact B
end Go.Proofs.Ytbfmdbeeiicabaa
namespace Go.Proofs.Ytbfmdbeeiicabaa
open Go.RowKit L01 L02 L05 L14 L15
theorem map_append_cons {o : Option (List Hb)} {L0 : List Hb} {b : Hb} : (o.map (b :: ·)).map (L0 ++ ·) = o.map ((L0 ++ [b]) ++ ·) := by
  cases o <;> simp
set_option maxRecDepth 100000 in
set_option maxHeartbeats 2000000 in
theorem From_any (v : Value) (l : List UInt64) (a : Int) (L : List Hb) (r : Int) (hL : L = fromL l a) (hr : r = fromErr l a) (w : World) (h : Words w v l) :
    Calls Try.prog 51 #[v, .int .i64 a] w fun e w' => ∃ x, e = .returned (.tuple #[x, .int .i64 r]) ∧ OwnK w' w.heap.size x L ∧ Below w.heap.size w w' := by
  have B : Below w.heap.size w w := Below.refl _ _
  have H := Lib.hid h
  have hlen := Rd.len_le h
  have lw := Rd.len h Try.underlying22
  obtain ⟨c, hc⟩ : ∃ c, c = chk l := ⟨_, rfl⟩
  have CT : Hid (∀ w, Words w v l → Calls Try.prog 55 #[v] w fun e w' => e = .returned (.int .i64 c) ∧ w = w') := by rw [hc]; exact Lib.hid (fun w h => Check_any v l w h)
  by_cases hs : SizeOk l.length
  case neg =>
    have hr0 : r = 8 := by rw [hr, fromErr, if_neg hs]
    have hL0 : L = [] := by rw [hL, fromL, ← hr, hr0]; rfl
    have hc8 : c = 8 := by rw [hc, chk_no hs]
    subst hr0; subst hL0; subst hc8
    clear hr hL hs hc h lw hlen
    go_enter Try.func51, Try.ntmps51
    go_wp2_with fail
    refine (CT.out _ (H.out.below B)).mono ?_
    rintro e w' ⟨rfl, rfl⟩
    go_wp2
    go_ret2
    exact ⟨_, rfl, OwnK.nil _ _, B⟩
  case pos =>
    have hc0 : c = 0 := by rw [hc, chk_ok hs]
    subst hc0
    obtain ⟨N, hN⟩ : ∃ N, N = l.length := ⟨_, rfl⟩
    rw [← hN] at lw hlen
    have hs2 := hs
    rw [← hN] at hs2
    obtain ⟨hn1, hn2, hn3⟩ := hs2
    by_cases hin : 128 ≤ a ∧ a ≤ N ∧ a % 2 = 0
    case neg =>
      have hr0 : r = 2 := by rw [hr, fromErr, if_pos hs, if_neg (by rw [← hN]; exact hin)]
      have hL0 : L = [] := by rw [hL, fromL, ← hr, hr0]; rfl
      subst hr0; subst hL0
      have hcase : a < 128 ∨ (128 ≤ a ∧ (N : Int) < a) ∨ (128 ≤ a ∧ a ≤ (N : Int) ∧ (a % 2 != 0) = true) := by
        by_cases h1 : a < 128
        · exact .inl h1
        · by_cases h2 : (N : Int) < a
          · exact .inr (.inl ⟨by omega, h2⟩)
          · exact .inr (.inr ⟨by omega, by omega, by rw [bne_iff_ne]; omega⟩)
      clear hr hL hs hc h hin hN
      rcases hcase with h1 | ⟨h0, h1⟩ | ⟨h0, h1, h2⟩
      all_goals
        go_enter Try.func51, Try.ntmps51
        go_wp2_with fail
        refine (CT.out _ (H.out.below B)).mono ?_
        rintro e w' ⟨rfl, rfl⟩
        go_wp2
        go_ret2
        exact ⟨_, rfl, OwnK.nil _ _, B⟩
    case pos =>
      obtain ⟨h1, h2, h3⟩ := hin
      obtain ⟨k, rfl⟩ := Int.eq_ofNat_of_zero_le (show 0 ≤ a by omega)
      have hre : r = if (from_ l k).isSome then 0 else 50 := by rw [hr, fromErr, if_pos hs, if_pos (by rw [← hN]; exact ⟨h1, h2, h3⟩), Int.toNat_natCast]
      have hLe : L = (from_ l k).getD [] := by
        rw [hL, fromL, ← hr, hre, Int.toNat_natCast]
        cases from_ l k with
        | none => rfl
        | some M => rfl
      have n1 : ¬ (k : Int) < 128 := by omega
      have n2 : ¬ (N : Int) < (k : Int) := by omega
      have n4 : decide ((k : Int) < 128) = false := decide_eq_false n1
      have n5 : decide (N < k) = false := decide_eq_false (by omega)
      have n6 : ¬ N < k := by omega
      have n3 : (k : Int).tmod 2 = 0 := by rw [Int.tmod_eq_emod_of_nonneg (by omega)]; omega
      have HR := Lib.hid (And.intro hre hLe); have HN := Lib.hid hN
      have hkN : k ≤ N := by omega
      clear hr hL hs hc h hre hLe h1 h2 h3 hN
      go_enter Try.func51, Try.ntmps51
      go_wp2_with fail
      refine (CT.out _ (H.out.below B)).mono ?_
      rintro e w' ⟨rfl, rfl⟩
      go_wp2
      have HB := Lib.hid B; clear B
      go_loopg [1, 7] (N - k) (fun g i xv wr => ∃ (q : Nat) (L0 : List Hb), q ≤ N ∧ g = N - q ∧ i = .int .i64 q ∧ Hid (OwnK wr w.heap.size xv L0 ∧ from_ l k = (from_ l q).map (L0 ++ ·) ∧ 2 * L0.length ≤ q ∧ Below w.heap.size w wr))
      case atStart => exact ⟨k, [], hkN, rfl, rfl, Lib.hid ⟨OwnK.nil _ _, by cases from_ l k <;> rfl, by simp, HB.out⟩⟩
      case round =>
        obtain ⟨q, L0, hq, rfl, rfl, hh⟩ := hrel
        clear HB
        by_cases hlt : q < N
        · by_cases hso : StOk l q
          · obtain ⟨b, hb⟩ : ∃ b, b = stand l q := ⟨_, rfl⟩
            have ST := Lib.hid (fun w h => stands_any v l q b 0 (by rw [← HN.out]; exact hlt) (by rw [if_pos hso, hb]) (by rw [if_pos hso]) w h)
            have hsz := szN_ge hso
            have hbs : b.size = (szN l q : Int) := by rw [hb]; exact stand_size hso
            have hst := from_step (by rw [← HN.out]; exact hlt) hso
            rw [← hb] at hst
            obtain ⟨z, hz⟩ : ∃ z, z = szN l q := ⟨_, rfl⟩
            rw [← hz] at hsz hbs hst
            rw [← HN.out] at hsz
            obtain ⟨hz1, -, -, hz4, -⟩ := hsz
            have o1 := hh.out.1
            have B := hh.out.2.2.2
            have hl0 := hh.out.2.2.1
            have hfr := hh.out.2.1
            rw [hst, map_append_cons] at hfr
            have HF := Lib.hid hfr
            have hB0 := B.size
            have hwq : IntKind.i64.wrap ((q : Int) + b.size) = ((q + z : Nat) : Int) := by rw [hbs, show ((q + z : Nat) : Int) = (q : Int) + z by omega]; exact IntWalk.i64_in _ (by omega)
            have HZ := Lib.hid (And.intro hz1 hz4)
            clear hb hst hfr hz hbs hso
            go_wp2_with fail
            refine (ST.out _ (H.out.below B)).mono ?_
            rintro e wa1 ⟨rfl, b⟩
            replace o1 := o1.below b; replace B := B.trans (b.mono B.size); clear b
            have hne := own_fresh o1
            go_upto_region 9 with (fail)
            refine wp_gen (fun Wv => Bx Wv (wa1.heap.size) (38) (#[.int .i64 b.at_, .int .i64 b.size, .int .i64 b.kind, .int .i64 b.ty, .bool b.mark, .int .u64 b.next.toNat]) ∧ Below wa1.heap.size wa1 Wv) ⟨((Bx.at_ (by simp))), ((Below.refl _ wa1).alloc (by simp <;> omega) _)⟩ ?_
            rintro wa2 ⟨g2, b⟩
            replace o1 := o1.below b; replace B := B.trans (b.mono B.size); clear b
            have c_g2 := g2.cell; have f_g2 := g2.free; have a_g2 := fun o => (g2.alloc o).cell; have d_g2 := fun o o2 => ((g2.alloc o).alloc o2).cell; have e_g2 := fun o => (g2.alloc o).free
            clear f_g2 a_g2 d_g2 e_g2
            go_wp2_with (at_builtin; refine wpList_append (by rfl) rfl rfl rfl Try.underlying26 info_block rfl (by omega) (by exact own_below o1 ((Below.refl _ _).alloc (Nat.le_refl _) _)) (by exact lit_block b (by simp)) (bkL_one b) (by omega) (by omega) (by exact B.alloc B.size _) (Nat.le_refl _) ?_; intro v1 w3 o3 B3 g3; have c_4 := ((g2.alloc _).grown g3 hne).cell; clear c_g2)
            have o4 : OwnK w3 w.heap.size v1 (L0 ++ [b]) := OwnK.of o3 (tabB_snoc L0 b)
            have HO := Lib.hid (And.intro o4 B3)
            go_roundg (N - (q + z))
            case measure => have := HZ.out.1; omega
            case rel => exact ⟨q + z, L0 ++ [b], by have := HZ.out.2; omega, rfl, rfl, Lib.hid ⟨HO.out.1, HF.out, by have := HZ.out.1; simp only [List.length_append, List.length_cons, List.length_nil]; omega, HO.out.2⟩⟩
          · have ST := Lib.hid (fun w h => stands_any v l q .none 50 (by rw [← HN.out]; exact hlt) (by rw [if_neg hso]) (by rw [if_neg hso]) w h)
            have hno := from_no (by rw [← HN.out]; exact hlt) hso
            have hfr := hh.out.2.1
            rw [hno] at hfr
            have hr0 : r = 50 := by rw [HR.out.1, hfr]; rfl
            have hL0 : L = [] := by rw [HR.out.2, hfr]; rfl
            subst hr0; subst hL0
            have B := hh.out.2.2.2
            clear hso hno hfr
            go_wp2_with fail
            refine (ST.out _ (H.out.below B)).mono ?_
            rintro e wa3 ⟨rfl, b⟩
            replace B := B.trans (b.mono B.size); clear b
            go_wp2
            go_ret2
            refine ⟨_, rfl, OwnK.nil _ _, ?_⟩
            (repeat (first | refine Below.setCell ?_ (by first | exact Nat.le_refl _ | (simp <;> omega)) _ | refine Below.alloc ?_ (by first | exact B.size | (have := B.size; simp <;> omega)) _)); exact B
        · obtain rfl : q = N := by omega
          have hfr := hh.out.2.1
          rw [show from_ l q = some [] by rw [HN.out]; exact from_end] at hfr
          have hr0 : r = 0 := by rw [HR.out.1, hfr]; rfl
          have hL0 : L = L0 := by rw [HR.out.2, hfr]; simp
          subst hr0; subst hL0
          have o1 := hh.out.1
          have B := hh.out.2.2.2
          clear hfr
          go_wp2
          go_ret2
          exact ⟨_, rfl, o1, B⟩
end Go.Proofs.Ytbfmdbeeiicabaa
namespace Go.Proofs.Ytbfmdbeeiicabaa
open Go.RowKit L01 L02 L05 L14 L15
/-- no two free extents side by side among the first j blocks -/
def NoAdj (L : List Hb) (j : Nat) : Prop := ∀ (i : Nat) (a b : Hb), i + 1 < j → L[i]? = some a → L[i + 1]? = some b → ¬ (a.kind = 2 ∧ b.kind = 2)
theorem noAdj_all {L : List Hb} (h : NoAdj L L.length) : ¬ Adj L := fun ha => by
  obtain ⟨i, a, b, h1, h2, h3, h4⟩ := adj_iff.1 ha
  exact h i a b (List.getElem?_eq_some_iff.1 h2).1 h1 h2 ⟨h3, h4⟩
theorem noAdj_step {L : List Hb} {j : Nat} (h : NoAdj L j) (h2 : ∀ (i : Nat) (a b : Hb), j = i + 1 → L[i]? = some a → L[i + 1]? = some b → ¬ (a.kind = 2 ∧ b.kind = 2)) : NoAdj L (j + 1) := fun i a b hi h3 h4 => by
  by_cases e : i + 1 = j
  · exact h2 i a b e.symm h3 h4
  · exact h i a b (by omega) h3 h4
theorem adj_at {L : List Hb} {i : Nat} {a b : Hb} (h1 : L[i]? = some a) (h2 : L[i + 1]? = some b) (h3 : a.kind = 2) (h4 : b.kind = 2) : Adj L := adj_iff.2 ⟨i, a, b, h1, h2, h3, h4⟩
theorem from128 {l : List UInt64} (hs : SizeOk l.length) : fromErr l 128 = if (from_ l 128).isSome then 0 else 50 := by
  have e : (128 : Int).toNat = 128 := rfl
  rw [fromErr, if_pos hs, if_pos (by have := hs.1; omega), e]
theorem fromL128 {l : List UInt64} {M : List Hb} (hs : SizeOk l.length) (hf : from_ l 128 = some M) : fromL l 128 = M := by
  have e : (128 : Int).toNat = 128 := rfl
  rw [fromL, if_pos (by rw [from128 hs, hf, if_pos Option.isSome_some]), e, hf]; rfl
theorem parsed_none {l : List UInt64} (hf : from_ l 128 = none) : parsed l = none := by
  unfold parsed
  generalize from_ l 128 = x at *
  subst hf; rfl
theorem parsed_some {l : List UInt64} {M : List Hb} (hf : from_ l 128 = some M) : parsed l = if Adj M then none else some M := by
  unfold parsed
  generalize from_ l 128 = x at *
  subst hf; rfl
set_option maxRecDepth 100000 in
set_option maxHeartbeats 2000000 in
theorem AllW_any (v : Value) (l : List UInt64) (L : List Hb) (r : Int) (hL : L = allL l) (hr : r = allErr l) (w : World) (h : Words w v l) :
    Calls Try.prog 15 #[v] w fun e w' => ∃ x, e = .returned (.tuple #[x, .int .i64 r]) ∧ OwnK w' w.heap.size x L ∧ Below w.heap.size w w' := by
  have B : Below w.heap.size w w := Below.refl _ _
  have H := Lib.hid h
  obtain ⟨L0, hL0⟩ : ∃ L0, L0 = fromL l 128 := ⟨_, rfl⟩
  obtain ⟨r0, hr0⟩ : ∃ r0, r0 = fromErr l 128 := ⟨_, rfl⟩
  have FT := Lib.hid (fun w h => From_any v l 128 L0 r0 hL0 hr0 w h)
  by_cases h0 : r0 = 0
  case neg =>
    have hn : (r0 != 0) = true := by rw [bne_iff_ne]; exact h0
    have hre : r = r0 := by
      rw [hr, allErr]
      by_cases hs : SizeOk l.length
      · rw [if_pos hs]
        rw [from128 hs] at hr0
        cases hf : from_ l 128 with
        | none => rw [hf, if_neg (by simp)] at hr0; rw [hr0, parsed_none hf, if_neg (by simp)]
        | some M => rw [hf, if_pos Option.isSome_some] at hr0; exact absurd hr0 h0
      · rw [if_neg hs, hr0, fromErr, if_neg hs]
    have hL1 : L = [] := by rw [hL, allL, ← hr, hre, if_neg h0]
    subst hL1; subst hre
    clear hL hr hL0 hr0 h h0
    go_enter Try.func15, Try.ntmps15
    go_wp2_with fail
    refine (FT.out _ (H.out.below B)).mono ?_
    rintro e wa1 ⟨x1, rfl, o1, b⟩
    replace B := B.trans (b.mono B.size); clear b
    go_wp2
    go_ret2
    exact ⟨_, rfl, OwnK.nil _ _, B⟩
  case pos =>
    have hs : SizeOk l.length := by
      rw [h0] at hr0
      by_cases hs : SizeOk l.length
      · exact hs
      · rw [fromErr, if_neg hs] at hr0; omega
    have hf : from_ l 128 = some L0 := by
      rw [h0, from128 hs] at hr0
      cases hf : from_ l 128 with
      | none => rw [hf, if_neg (by simp)] at hr0; omega
      | some M => rw [hL0, fromL128 hs hf]
    have hre : r = if Adj L0 then 50 else 0 := by
      rw [hr, allErr, if_pos hs, parsed_some hf]
      by_cases ha : Adj L0 <;> simp [ha]
    have hLe : L = if Adj L0 then [] else L0 := by
      rw [hL, allL, ← hr, hre, parsed_some hf]
      by_cases ha : Adj L0 <;> simp [ha]
    have HR := Lib.hid (And.intro hre hLe)
    subst h0
    obtain ⟨N, hN⟩ : ∃ N, N = L0.length := ⟨_, rfl⟩
    have HN := Lib.hid hN
    clear hL hr hL0 hr0 h hs hf hre hLe
    go_enter Try.func15, Try.ntmps15
    go_wp2_with fail
    refine (FT.out _ (H.out.below B)).mono ?_
    rintro e wa1 ⟨x1, rfl, o1, b⟩
    replace B := B.trans (b.mono B.size); clear b
    have lx := o1.rd.len
    have hlen := o1.rd.len_le
    rw [← hN] at lx hlen
    clear hN
    go_wp2
    go_loopg [17] N (fun g i wr => ∃ j : Nat, j ≤ N ∧ g = N - j ∧ i = .int .i64 j ∧ wr = wa1 ∧ Hid (NoAdj L0 j))
    case atStart => exact ⟨0, by omega, by omega, rfl, rfl, Lib.hid (fun i a b h1 => by omega)⟩
    case round =>
      obtain ⟨j, hj, rfl, rfl, rfl, hna⟩ := hrel
      by_cases hlt : j < N
      · obtain ⟨bb, oo, s, ia, _, _, m0, _, _, _, hs, _⟩ := o1.rd.at_ (k := j) (by rw [← HN.out]; exact hlt)
        rcases j with _ | i
        · have n1 : ¬ (0 : Int) < ((0 : Nat) : Int) := by omega
          go_wp2
          go_roundg (N - 1)
          case measure => omega
          case rel => exact ⟨1, by omega, rfl, by go_num, rfl, Lib.hid (noAdj_step hna.out (fun i a b h1 => by omega))⟩
        · obtain ⟨b2, o2, t, ia2, _, _, m1, _, _, _, ht, _⟩ := o1.rd.at_ (k := i) (by rw [← HN.out]; omega)
          have ia3 : ∀ W, (Instr.indexAt 26 x1 (.int .i64 ((i : Int) + 1))).run Try.prog W = .ok (.pointer (some ⟨bb, oo, none⟩)) W := ia
          have hw : IntKind.i64.wrap ((i : Int) + 1 - 1) = (i : Int) := by rw [show (i : Int) + 1 - 1 = (i : Int) by omega]; exact IntWalk.i64_in _ (by omega)
          have hw2 : IntKind.i64.wrap (i : Int) = (i : Int) := IntWalk.i64_in _ (by omega)
          have n1 : (0 : Int) < (i : Int) + 1 := by omega
          by_cases hk : t.kind = 2 ∧ s.kind = 2
          · have ha := adj_at ht.out hs.out hk.1 hk.2
            have hr0 : r = 50 := by rw [HR.out.1, if_pos ha]
            have hL0 : L = [] := by rw [HR.out.2, if_pos ha]
            rw [hk.2] at m0; rw [hk.1] at m1
            subst hr0; subst hL0
            clear hk ha
            go_wp2
            go_ret2
            exact ⟨_, rfl, OwnK.nil _ _, B⟩
          · have hna2 : NoAdj L0 (i + 1 + 1) := noAdj_step hna.out (fun i' a b h1 h2 h3 => by
              obtain rfl : i' = i := by omega
              rw [ht.out] at h2; rw [hs.out] at h3
              injection h2 with h2; injection h3 with h3; subst h2; subst h3; exact hk)
            have HNA := Lib.hid hna2; clear hna2
            by_cases hs2 : s.kind = 2
            · have ht2 : (t.kind == 2) = false := by rw [beq_eq_false_iff_ne]; exact fun e => hk ⟨e, hs2⟩
              rw [hs2] at m0
              clear hk hs2
              go_wp2
              go_roundg (N - (i + 1 + 1))
              case measure => omega
              case rel => exact ⟨i + 1 + 1, by omega, rfl, by go_num, rfl, HNA⟩
            · have ht2 : (s.kind == 2) = false := by rw [beq_eq_false_iff_ne]; exact hs2
              clear hk hs2
              go_wp2
              go_roundg (N - (i + 1 + 1))
              case measure => omega
              case rel => exact ⟨i + 1 + 1, by omega, rfl, by go_num, rfl, HNA⟩
      · obtain rfl : j = N := by omega
        have ha : ¬ Adj L0 := noAdj_all (by rw [← HN.out]; exact hna.out)
        have hr0 : r = 0 := by rw [HR.out.1, if_neg ha]
        have hL0 : L = L0 := by rw [HR.out.2, if_neg ha]
        subst hr0; subst hL0
        clear ha
        go_wp2
        go_ret2
        exact ⟨_, rfl, o1, B⟩
end Go.Proofs.Ytbfmdbeeiicabaa
namespace Go.Proofs.Ytbfmdbeeiicabaa
open Go.RowKit L01 L02 L05 L14 L15
end Go.Proofs.Ytbfmdbeeiicabaa
namespace Go.Proofs.Ytbfmdbeeiicabaa
open Go.RowKit
theorem one_bool : (Try.prog.info? 4).map (·.size) = some 1 := by kernel_rfl
end Go.Proofs.Ytbfmdbeeiicabaa
namespace Go.Proofs.Ytbfmdbeeiicabaa
open Go.RowKit L01 L02 L05 L14 L15
/-- A slice of bools of the call's own. -/
def OwnBl (w : World) (base : Nat) (v : Value) (R : List Bool) : Prop := w.ownsRow base 4 1 v R.length (R.map .bool)
theorem OwnBl.below {w w' : World} {base : Nat} {v : Value} {R : List Bool} (h : OwnBl w base v R) (hb : Below w.heap.size w w') : OwnBl w' base v R := own_below h hb
theorem OwnBl.of {w : World} {B n : Nat} {v : Value} {xs : List Value} {R : List Bool} (h : w.ownsRow B 4 1 v n xs) (hx : xs = R.map .bool) : OwnBl w B v R := by
  subst hx
  have hn : n = R.length := by have := h.1; simp at this; omega
  subst hn; exact h
theorem OwnBl.at_ {w : World} {base : Nat} {v : Value} {R : List Bool} (h : OwnBl w base v R) {k : Nat} {b : Bool} (hk : R[k]? = some b) :
    ∃ ad, (∀ W, (Instr.indexAt 204 v (.int .i64 (k : Int))).run Try.prog W = .ok (.pointer (some ad)) W) ∧ w.cell? ad = some (.bool b) ∧ w.frozen? ad = false ∧ base ≤ ad.block ∧ ∀ u, OwnBl (w.setCell ad (.bool u)) base v (R.set k u) := by
  obtain ⟨ad, u0, h1, h2, h3, h4, h5, h6⟩ := own_at (P := Try.prog) h Try.underlying204 one_bool (k := (k : Int)) (by omega) (by have := (List.getElem?_eq_some_iff.1 hk).1; omega)
  have h5 := h5.out
  rw [Int.toNat_natCast, List.getElem?_map, hk] at h5
  injection h5 with h5
  refine ⟨ad, h1, by rw [h2, ← h5], h3, h4, fun u => OwnBl.of (h6 (.bool u)) ?_⟩
  rw [Int.toNat_natCast, List.map_set]
end Go.Proofs.Ytbfmdbeeiicabaa
namespace Go.Proofs.Ytbfmdbeeiicabaa.L06
open L02 L05
def SupOk (W T : Int) : Prop := SizeOk W ∧ 0 ≤ T ∧ T ≤ 8
instance (W T : Int) : Decidable (SupOk W T) := inferInstanceAs (Decidable (SizeOk W ∧ 0 ≤ T ∧ T ≤ 8))
def magic : UInt64 := 32777959566500194
def u (n : Int) : UInt64 := UInt64.ofNat n.toNat
def body (W T : Int) : List UInt64 := [magic, 1, u W, u T, 0, 0, 0]
def wordsOf (W T : Int) : List UInt64 := body W T ++ [sum (body W T)]
def write (W T : Int) : List UInt64 := if SupOk W T then wordsOf W T else []
def at2 (l : List UInt64) : Int := (l.getD 2 0).toNat
def at3 (l : List UInt64) : Int := (l.getD 3 0).toNat
def ReadOk (l : List UInt64) : Prop := SupOk (at2 l) (at3 l) ∧ l = wordsOf (at2 l) (at3 l)
instance (l : List UInt64) : Decidable (ReadOk l) := inferInstanceAs (Decidable (SupOk (at2 l) (at3 l) ∧ l = wordsOf (at2 l) (at3 l)))
def rdW (l : List UInt64) : Int := if ReadOk l then at2 l else 0
def rdT (l : List UInt64) : Int := if ReadOk l then at3 l else 0
def rdErr (l : List UInt64) : Int := if l.length = 8 then (if ReadOk l then 0 else 50) else 2
theorem u_nat {n : Int} (h0 : 0 ≤ n) (h1 : n < 18446744073709551616) : ((u n).toNat : Int) = n := by
  unfold u; rw [UInt64.toNat_ofNat', Nat.mod_eq_of_lt (by omega)]; omega
theorem readOk_len {l : List UInt64} (h : ReadOk l) : l.length = 8 := by rw [h.2]; rfl
theorem rd_no {l : List UInt64} (h : ¬ ReadOk l) : rdW l = 0 ∧ rdT l = 0 := ⟨if_neg h, if_neg h⟩
/-! ### the sum tells one byte -/
def inv : UInt64 := 14886173955864302971
end Go.Proofs.Ytbfmdbeeiicabaa.L06
namespace Go.Proofs.Ytbfmdbeeiicabaa.L07
open L02 L05 L06
def c0 (m : List UInt64) : List UInt64 := m.take 8
def c1 (m : List UInt64) : List UInt64 := (m.drop 8).take 8
def CopyOk (n : Nat) (l : List UInt64) : Prop := ReadOk l ∧ at2 l = (n : Int)
instance (n : Nat) (l : List UInt64) : Decidable (CopyOk n l) := inferInstanceAs (Decidable (ReadOk l ∧ at2 l = (n : Int)))
def is0 (m : List UInt64) : Bool := decide (SizeOk m.length ∧ CopyOk m.length (c0 m))
def is1 (m : List UInt64) : Bool := decide (SizeOk m.length ∧ CopyOk m.length (c1 m))
def rErr (m : List UInt64) : Int := if SizeOk m.length then (if is0 m = true ∨ is1 m = true then 0 else 50) else 8
/-- the copy that counts -/
def one (m : List UInt64) : List UInt64 := if is0 m = true then c0 m else c1 m
def sW (m : List UInt64) : Int := if rErr m = 0 then (m.length : Int) else 0
def sT (m : List UInt64) : Int := if rErr m = 0 then at3 (one m) else 0
def view (m : List UInt64) : List UInt64 := if rErr m = 0 then one m ++ (one m ++ m.drop 16) else []
def heals (m : List UInt64) : List (Int × UInt64) := if rErr m = 0 then (diffs m (view m)).map fun i => (i, (view m).getD i.toNat 0) else []
theorem c0_len {m : List UInt64} (h : SizeOk m.length) : (c0 m).length = 8 := by have := h.1; simp [c0]; omega
theorem c1_len {m : List UInt64} (h : SizeOk m.length) : (c1 m).length = 8 := by have := h.1; simp [c1]; omega
theorem rErr_ok {m : List UInt64} (h : rErr m = 0) : SizeOk m.length ∧ (is0 m = true ∨ is1 m = true) := by
  unfold rErr at h
  split at h
  · split at h
    · exact ⟨‹_›, ‹_›⟩
    · omega
  · omega
theorem rErr_mk {m : List UInt64} (h : SizeOk m.length) (h1 : is0 m = true ∨ is1 m = true) : rErr m = 0 := by rw [rErr, if_pos h, if_pos h1]
theorem rErr_no {m : List UInt64} (h : ¬ SizeOk m.length) : rErr m = 8 := if_neg h
theorem rErr_50 {m : List UInt64} (h : SizeOk m.length) (h0 : is0 m = false) (h1 : is1 m = false) : rErr m = 50 := by rw [rErr, if_pos h, if_neg (by simp [h0, h1])]
theorem is0_no {m : List UInt64} (h : ¬ SizeOk m.length) : is0 m = false := decide_eq_false (fun x => h x.1)
theorem is1_no {m : List UInt64} (h : ¬ SizeOk m.length) : is1 m = false := decide_eq_false (fun x => h x.1)
theorem is0_good {m : List UInt64} (h : SizeOk m.length) : is0 m = decide (CopyOk m.length (c0 m)) := by simp [is0, h]
theorem is1_good {m : List UInt64} (h : SizeOk m.length) : is1 m = decide (CopyOk m.length (c1 m)) := by simp [is1, h]
theorem one_good {m : List UInt64} (h : rErr m = 0) : CopyOk m.length (one m) := by
  obtain ⟨_, h1⟩ := rErr_ok h
  unfold one
  split
  · rename_i h0; exact (of_decide_eq_true h0).2
  · rename_i h0
    exact (of_decide_eq_true (h1.resolve_left h0)).2
theorem one_len {m : List UInt64} (h : rErr m = 0) : (one m).length = 8 := readOk_len (one_good h).1
theorem view_ok {m : List UInt64} (h : rErr m = 0) : view m = one m ++ (one m ++ m.drop 16) := if_pos h
theorem view_len {m : List UInt64} (h : rErr m = 0) : (view m).length = m.length := by
  have := (rErr_ok h).1.1
  rw [view_ok h]; simp [one_len h]; omega
section
variable {m a b : List UInt64}
end
/-- differences -/
theorem diffsTo_mem {a b : List UInt64} {k : Nat} {x : Int} (h : x ∈ diffsTo a b k) : ∃ i : Nat, x = (i : Int) ∧ i < k ∧ a[i]? ≠ b[i]? := by
  unfold diffsTo at h
  obtain ⟨i, hi, rfl⟩ := List.mem_map.1 h
  obtain ⟨h1, h2⟩ := List.mem_filter.1 hi
  exact ⟨i, rfl, List.mem_range.1 h1, of_decide_eq_true h2⟩
theorem diffsTo_more {a b : List UInt64} {n : Nat} (h : ∀ i, n ≤ i → a[i]? = b[i]?) : ∀ k, n ≤ k → diffsTo a b k = diffsTo a b n
  | 0, h0 => by rw [Nat.le_zero.1 h0]
  | k + 1, h0 => by
    by_cases hk : n = k + 1
    · rw [hk]
    · rw [diffsTo_succ, diffsTo_more h k (by omega), if_neg (by simp [h k (by omega)]), List.append_nil]
theorem diffsTo_congr {a b a' b' : List UInt64} {k : Nat} (h1 : ∀ i, i < k → a[i]? = a'[i]?) (h2 : ∀ i, i < k → b[i]? = b'[i]?) : diffsTo a b k = diffsTo a' b' k := by
  unfold diffsTo
  congr 1
  apply List.filter_congr
  intro i hi
  rw [h1 i (List.mem_range.1 hi), h2 i (List.mem_range.1 hi)]
section
variable {m : List UInt64}
theorem diff_ok (h : rErr m = 0) : diffErr m (view m) = 0 ∧ diffs m (view m) = diffsTo m (view m) m.length := by
  have h1 := (rErr_ok h).1
  have h2 := view_len h
  have e : diffErr m (view m) = 0 := by rw [diffErr, if_pos ⟨h1, by rw [h2]; exact h1⟩, if_pos h2.symm]
  exact ⟨e, if_pos e⟩
/-- behind the copies all is as it was -/
theorem view_far (h : rErr m = 0) {i : Nat} (hi : 16 ≤ i) : m[i]? = (view m)[i]? := by
  rw [view_ok h, List.getElem?_append_right (by rw [one_len h]; omega), List.getElem?_append_right (by rw [one_len h]; omega), List.getElem?_drop, one_len h]
  congr 1; omega
theorem heals_to (h : rErr m = 0) : heals m = (diffsTo m (view m) 16).map fun i => (i, (view m).getD i.toNat 0) := by
  have := (rErr_ok h).1.1
  rw [heals, if_pos h, (diff_ok h).2, diffsTo_more (fun i hi => view_far h hi) m.length (by omega)]
/-- TwinApart -/
theorem apart {k : Nat} (hk : 16 ≤ k) (x : UInt64) : rErr (m.set k x) = rErr m ∧ is0 (m.set k x) = is0 m ∧ is1 (m.set k x) = is1 m ∧ sW (m.set k x) = sW m ∧ sT (m.set k x) = sT m ∧ heals (m.set k x) = heals m := by
  have e0 : c0 (m.set k x) = c0 m := by rw [c0, List.take_set_of_le (by omega)]; rfl
  have e1 : c1 (m.set k x) = c1 m := by rw [c1, List.drop_set, if_neg (by omega), List.take_set_of_le (by omega)]; rfl
  have i0 : is0 (m.set k x) = is0 m := by unfold is0; rw [e0, List.length_set]
  have i1 : is1 (m.set k x) = is1 m := by unfold is1; rw [e1, List.length_set]
  have r : rErr (m.set k x) = rErr m := by unfold rErr; rw [i0, i1, List.length_set]
  have o : one (m.set k x) = one m := by unfold one; rw [i0, e0, e1]
  refine ⟨r, i0, i1, by unfold sW; rw [r, List.length_set], by unfold sT; rw [r, o], ?_⟩
  by_cases h : rErr m = 0
  · have h' : rErr (m.set k x) = 0 := r.trans h
    have ev : ∀ i, i < 16 → (view (m.set k x))[i]? = (view m)[i]? := fun i hi => by
      rw [view_ok h, view_ok h', o, ← List.append_assoc, ← List.append_assoc, List.getElem?_append_left (l₁ := one m ++ one m) (by simp [one_len h]; omega), List.getElem?_append_left (l₁ := one m ++ one m) (by simp [one_len h]; omega)]
    rw [heals_to h, heals_to h', diffsTo_congr (a' := m) (b' := view m) (fun i hi => by rw [List.getElem?_set_ne (by omega)]) ev]
    apply List.map_congr_left
    intro y hy
    obtain ⟨i, rfl, hi, _⟩ := diffsTo_mem hy
    simp only [Int.toNat_natCast, List.getD_eq_getElem?_getD, ev i hi]
  · rw [heals, if_neg (by rw [r]; exact h), heals, if_neg h]
end
/-- an image of zeros with a superblock in both copies -/
def made (W T : Int) : List UInt64 := wordsOf W T ++ (wordsOf W T ++ List.replicate (W.toNat - 16) 0)
end Go.Proofs.Ytbfmdbeeiicabaa.L07
namespace Go.Proofs.Ytbfmdbeeiicabaa.L19
open L02 L07 L13 L14 L15 L18
/-- eight words are 0 -/
def Zr (l : List UInt64) (a : Nat) : Prop := ∀ i, i < 8 → l.getD (a + i) 0 = 0
instance (l : List UInt64) (a : Nat) : Decidable (Zr l a) := inferInstanceAs (Decidable (∀ i, i < 8 → _))
def objs (L : List Hb) : List Hb := L.filter fun b => decide (b.kind = 1)
/-- an object begins at an address -/
def IsObj (O : List Hb) (a : Int) : Prop := ∃ b ∈ O, b.at_ = a
instance (O : List Hb) (a : Int) : Decidable (IsObj O a) := inferInstanceAs (Decidable (∃ b ∈ O, _))
def kindsB (T : List (List UInt8)) (b : Hb) : List UInt8 := T.getD b.ty.toNat []
def fw (l : List UInt64) (b : Hb) (i : Nat) : UInt64 := l.getD (b.at_.toNat + 2 + i) 0
def Idle (b : Hb) : Prop := b.mark = false ∧ b.next = 0
instance (b : Hb) : Decidable (Idle b) := inferInstanceAs (Decidable (_ ∧ _))
def Typed (T : List (List UInt8)) (b : Hb) : Prop := b.ty < T.length ∧ b.size = 2 + (((kindsB T b).length + 1) / 2 * 2 : Nat)
instance (T : List (List UInt8)) (b : Hb) : Decidable (Typed T b) := inferInstanceAs (Decidable (_ ∧ _))
def Padded (l : List UInt64) (T : List (List UInt8)) (b : Hb) : Prop := (kindsB T b).length % 2 = 0 ∨ fw l b (kindsB T b).length = 0
instance (l : List UInt64) (T : List (List UInt8)) (b : Hb) : Decidable (Padded l T b) := inferInstanceAs (Decidable (_ ∨ _))
def FloatsB (l : List UInt64) (T : List (List UInt8)) (b : Hb) : Prop := ∀ i, i < (kindsB T b).length → ((kindsB T b).getD i 0).toNat = 2 → L20.FloatOk (fw l b i)
instance (l : List UInt64) (T : List (List UInt8)) (b : Hb) : Decidable (FloatsB l T b) := inferInstanceAs (Decidable (∀ i, i < _ → _))
def RefsB (l : List UInt64) (T : List (List UInt8)) (O : List Hb) (b : Hb) : Prop := ∀ i, i < (kindsB T b).length → ((kindsB T b).getD i 0).toNat = 3 → (fw l b i = 0 ∨ IsObj O (fw l b i).toNat)
instance (l : List UInt64) (T : List (List UInt8)) (O : List Hb) (b : Hb) : Decidable (RefsB l T O b) := inferInstanceAs (Decidable (∀ i, i < _ → _))
/-- what an object must have, by the number of the reason -/
def Good (l : List UInt64) (T : List (List UInt8)) (O : List Hb) (r : Nat) (b : Hb) : Prop :=
  match r with
  | 7 => Idle b
  | 8 => Typed T b
  | 9 => Padded l T b
  | 10 => FloatsB l T b
  | _ => RefsB l T O b
instance (l : List UInt64) (T : List (List UInt8)) (O : List Hb) (r : Nat) (b : Hb) : Decidable (Good l T O r b) := by
  unfold Good; split <;> infer_instance
def AllGood (l : List UInt64) (T : List (List UInt8)) (O : List Hb) (r : Nat) : Prop := ∀ b ∈ O, Good l T O r b
instance (l : List UInt64) (T : List (List UInt8)) (O : List Hb) (r : Nat) : Decidable (AllGood l T O r) := inferInstanceAs (Decidable (∀ b ∈ O, _))
def SlotsGood (S : List Sl) (O : List Hb) : Prop := ∀ s ∈ S, s.used = true → IsObj O s.at_
instance (S : List Sl) (O : List Hb) : Decidable (SlotsGood S O) := inferInstanceAs (Decidable (∀ s ∈ S, _ → _))
/-- the types, the slots, the blocks, the objects of an image -/
def T19 (l : List UInt64) : List (List UInt8) := tabT l (sT l)
def O19 (l : List UInt64) : List Hb := objs (allL l)
/-- the first of the reasons 1 to 6 -/
def why6 (l : List UInt64) : Nat :=
  if rErr l ≠ 0 then 1 else if ¬ Zr l 16 then 2 else if ¬ Zr l 24 then 3 else if tabErr l (sT l) ≠ 0 then 4 else if openErr l ≠ 0 then 5 else if allErr l ≠ 0 then 6 else 0
/-- the first of the reasons r to 11, or 0 -/
def whyO (l : List UInt64) (T : List (List UInt8)) (O : List Hb) : Nat → Nat → Nat
  | 0, _ => 0
  | f + 1, r => if AllGood l T O r then whyO l T O f (r + 1) else r
def why (l : List UInt64) : Nat :=
  if why6 l ≠ 0 then why6 l else if whyO l (T19 l) (O19 l) 5 7 ≠ 0 then whyO l (T19 l) (O19 l) 5 7 else if SlotsGood (slots l) (O19 l) then 0 else 12
def reaE (l : List UInt64) : Int := if SizeOk l.length then 0 else 8
def rea (l : List UInt64) : Nat := if SizeOk l.length then why l else 0
def chk19 (l : List UInt64) : Int := if SizeOk l.length then (if why l = 0 then 0 else 50) else 8
theorem whyO_zero {l : List UInt64} {T : List (List UInt8)} {O : List Hb} : ∀ (f r : Nat), 0 < r → (whyO l T O f r = 0 ↔ ∀ i, r ≤ i → i < r + f → AllGood l T O i)
  | 0, r, _ => ⟨fun _ i h1 h2 => by omega, fun _ => rfl⟩
  | f + 1, r, hr => by
    rw [whyO]
    by_cases h : AllGood l T O r
    · rw [if_pos h, whyO_zero f (r + 1) (by omega)]
      refine ⟨fun h2 i h3 h4 => ?_, fun h2 i h3 h4 => h2 i (by omega) (by omega)⟩
      by_cases hi : i = r
      · subst hi; exact h
      · exact h2 i (by omega) (by omega)
    · rw [if_neg h]
      exact ⟨fun h2 => by omega, fun h2 => absurd (h2 r (Nat.le_refl _) (by omega)) h⟩
theorem why6_zero {l : List UInt64} : why6 l = 0 ↔ rErr l = 0 ∧ Zr l 16 ∧ Zr l 24 ∧ tabErr l (sT l) = 0 ∧ openErr l = 0 ∧ allErr l = 0 := by
  unfold why6
  by_cases h1 : rErr l = 0 <;> by_cases h2 : Zr l 16 <;> by_cases h3 : Zr l 24 <;> by_cases h4 : tabErr l (sT l) = 0 <;> by_cases h5 : openErr l = 0 <;> by_cases h6 : allErr l = 0 <;> simp [h1, h2, h3, h4, h5, h6]
theorem why_zero {l : List UInt64} : why l = 0 ↔ why6 l = 0 ∧ (∀ i, 7 ≤ i → i < 12 → AllGood l (T19 l) (O19 l) i) ∧ SlotsGood (slots l) (O19 l) := by
  have h := whyO_zero (l := l) (T := T19 l) (O := O19 l) 5 7 (by omega)
  unfold why
  by_cases h1 : why6 l = 0
  · simp only [h1, ne_eq, not_true, if_false, true_and]
    by_cases h2 : whyO l (T19 l) (O19 l) 5 7 = 0
    · simp only [h2, ne_eq, not_true, if_false]
      have h2' := h.1 h2
      by_cases h3 : SlotsGood (slots l) (O19 l)
      · simp only [h3, if_true, and_true, true_iff]; exact h2'
      · simp [h3]
    · simp only [ne_eq, h2, not_false_eq_true, if_true, false_iff]
      exact fun hh => h2 (h.2 hh.1)
  · simp [h1]
theorem chk19_ok {l : List UInt64} (h : chk19 l = 0) : SizeOk l.length ∧ why l = 0 := by
  unfold chk19 at h
  split at h
  · split at h
    · rename_i h1 h2; exact ⟨h1, h2⟩
    · omega
  · omega
end Go.Proofs.Ytbfmdbeeiicabaa.L19
namespace Go.Proofs.Ytbfmdbeeiicabaa.L19
open L02 L07 L13 L14 L15 L18
theorem getD_set_ne {l : List UInt64} {p k : Nat} {v : UInt64} (h : p ≠ k) : (l.set p v).getD k 0 = l.getD k 0 := by
  rw [List.getD_eq_getElem?_getD, List.getD_eq_getElem?_getD, List.getElem?_set_ne h]
theorem getD_set_self {l : List UInt64} {p : Nat} {v : UInt64} (h : p < l.length) : (l.set p v).getD p 0 = v := by
  rw [List.getD_eq_getElem?_getD, List.getElem?_set_self h]; rfl
/-- words below an address do not matter for the blocks from there on -/
theorem stOk_set {l : List UInt64} {p k : Nat} {v : UInt64} (h : p ≠ k) : StOk (l.set p v) k ↔ StOk l k := by
  unfold StOk; rw [getD_set_ne h, List.length_set]
theorem szN_set {l : List UInt64} {p k : Nat} {v : UInt64} (h : p ≠ k) : szN (l.set p v) k = szN l k := by
  unfold szN; rw [getD_set_ne h]
theorem stand_set1 {l : List UInt64} {p k : Nat} {v : UInt64} (h : p ≠ k) : stand (l.set p v) k = { stand l k with next := (l.set p v).getD (k + 1) 0 } := by
  unfold stand; rw [getD_set_ne h]
/-- a chain stays a chain where no first word is changed -/
theorem chain_set {l : List UInt64} {p k : Nat} {v : UInt64} {L : List Hb} (h : Chain l k L) (hp : ∀ b ∈ L, b.at_ ≠ (p : Int)) : Chain (l.set p v) k (L.map fun b => { b with next := (l.set p v).getD (b.at_.toNat + 1) 0 }) := by
  induction h with
  | nil =>
    have h0 : Chain (l.set p v) (l.set p v).length [] := .nil
    rw [List.length_set] at h0
    exact h0
  | cons hk hs hc ih =>
    rename_i k L
    have hpk : p ≠ k := fun e => hp _ List.mem_cons_self (by rw [stand_at, e])
    have h1 := ih fun b hb => hp b (List.mem_cons_of_mem _ hb)
    rw [List.map_cons, stand_at, Int.toNat_natCast]
    show Chain (l.set p v) k ({ stand l k with next := (l.set p v).getD (k + 1) 0 } :: _)
    rw [show ({ stand l k with next := (l.set p v).getD (k + 1) 0 } : Hb) = stand (l.set p v) k from (stand_set1 hpk).symm]
    refine .cons (by rw [List.length_set]; exact hk) ((stOk_set hpk).2 hs) ?_
    rw [szN_set hpk]; exact h1
/-- the parts in front of the heap -/
theorem c0_set {l : List UInt64} {p : Nat} {v : UInt64} (h : 8 ≤ p) : c0 (l.set p v) = c0 l := by
  unfold c0; rw [List.take_set_of_le h]
theorem c1_set {l : List UInt64} {p : Nat} {v : UInt64} (h : 16 ≤ p) : c1 (l.set p v) = c1 l := by
  unfold c1; rw [List.drop_set, if_neg (by omega), List.take_set_of_le (by omega)]
theorem rErr_set {l : List UInt64} {p : Nat} {v : UInt64} (h : 16 ≤ p) : rErr (l.set p v) = rErr l ∧ sT (l.set p v) = sT l ∧ sW (l.set p v) = sW l := by
  have e0 : is0 (l.set p v) = is0 l := by unfold is0; rw [c0_set (by omega), List.length_set]
  have e1 : is1 (l.set p v) = is1 l := by unfold is1; rw [c1_set h, List.length_set]
  have e2 : rErr (l.set p v) = rErr l := by unfold rErr; rw [e0, e1, List.length_set]
  refine ⟨e2, ?_, ?_⟩
  · unfold sT one; rw [e2, e0, c0_set (by omega), c1_set h]
  · unfold sW; rw [e2, List.length_set]
theorem zr_set {l : List UInt64} {p a : Nat} {v : UInt64} (h : p < a ∨ a + 8 ≤ p) : Zr (l.set p v) a ↔ Zr l a := by
  unfold Zr
  constructor <;> intro hh i hi <;> have := hh i hi <;> rw [getD_set_ne (by omega)] at * <;> exact this
theorem ta_set {l : List UInt64} {p i : Nat} {v : UInt64} (h : p < 96 ∨ 112 ≤ p) (hi : i < 8) : ta (l.set p v) i = ta l i ∧ tb (l.set p v) i = tb l i := by
  unfold ta tb; exact ⟨getD_set_ne (by omega), getD_set_ne (by omega)⟩
theorem tabErr_set {l : List UInt64} {p : Nat} {v : UInt64} (h : p < 96 ∨ 112 ≤ p) (n : Int) : tabErr (l.set p v) n = tabErr l n ∧ tabT (l.set p v) n = tabT l n := by
  have e : ∀ k, TysOk (l.set p v) k ↔ TysOk l k := fun k => by
    unfold TysOk
    constructor <;> intro hh i hi <;> have := hh i hi <;> unfold TyOk at * <;> rw [(ta_set h hi).1, (ta_set h hi).2] at * <;> exact this
  have e2 : tabErr (l.set p v) n = tabErr l n := by
    unfold tabErr; rw [List.length_set]; simp only [e]
  refine ⟨e2, ?_⟩
  unfold tabT
  rw [e2]
  by_cases h0 : tabErr l n = 0
  · rw [if_pos h0, if_pos h0]
    have hn : n.toNat ≤ 8 := by
      unfold tabErr at h0
      split at h0
      · split at h0
        · omega
        · omega
      · omega
    unfold tysTo
    refine List.map_congr_left fun i hi => ?_
    have := List.mem_range.1 hi
    rw [(ta_set h (by omega)).1, (ta_set h (by omega)).2]
  · rw [if_neg h0, if_neg h0]
theorem open_set {l : List UInt64} {p : Nat} {v : UInt64} (h : p < 112 ∨ 128 ≤ p) : openErr (l.set p v) = openErr l ∧ slots (l.set p v) = slots l := by
  have e : ws (l.set p v) = ws l := by
    unfold ws
    rw [List.drop_set]
    split
    · rfl
    · rw [List.take_set_of_le (by omega)]
  refine ⟨?_, by unfold slots; rw [e]⟩
  have e2 : AllR (l.set p v) ↔ AllR l := by unfold AllR; rw [e]
  unfold openErr; rw [List.length_set]; simp only [e2]
/-- the words of fields -/
theorem fw_set {l : List UInt64} {p i : Nat} {v : UInt64} {b : Hb} (h : p ≠ b.at_.toNat + 2 + i) : fw (l.set p v) b i = fw l b i := getD_set_ne h
/-- where the blocks of a chain lie -/
theorem chain_apart {l : List UInt64} {k : Nat} {L : List Hb} (h : Chain l k L) : (∀ b ∈ L, (k : Int) ≤ b.at_) ∧ L.Pairwise fun a b => a.at_ + a.size ≤ b.at_ := by
  induction h with
  | nil => exact ⟨fun b hb => (by cases hb), .nil⟩
  | cons hk hs hc ih =>
    rename_i k L
    have hz := szN_ge hs
    have hst := stand_size hs
    refine ⟨fun b hb => ?_, List.pairwise_cons.2 ⟨fun b hb => ?_, ih.2⟩⟩
    · rcases List.mem_cons.1 hb with rfl | hb
      · exact Int.le_refl _
      · have := ih.1 b hb; omega
    · have := ih.1 b hb
      rw [stand_at, hst]; omega
theorem apart_of {L : List Hb} (h : L.Pairwise fun a b => a.at_ + a.size ≤ b.at_) {a b : Hb} (ha : a ∈ L) (hb : b ∈ L) : a = b ∨ a.at_ + a.size ≤ b.at_ ∨ b.at_ + b.size ≤ a.at_ := by
  induction h with
  | nil => cases ha
  | cons h1 _ ih =>
    rcases List.mem_cons.1 ha with e1 | ha
    · rcases List.mem_cons.1 hb with e2 | hb
      · exact .inl (e1.trans e2.symm)
      · rw [e1]; exact .inr (.inl (h1 b hb))
    · rcases List.mem_cons.1 hb with e2 | hb
      · rw [e2]; exact .inr (.inr (h1 a ha))
      · exact ih ha hb
/-- a block of a heap -/
theorem all_mem {l : List UInt64} (h : allErr l = 0) {b : Hb} (hb : b ∈ allL l) : ∃ a : Nat, 128 ≤ a ∧ a < l.length ∧ StOk l a ∧ b = stand l a ∧ a % 2 = 0 := by
  obtain ⟨a, h1, h2, h3, h4, h5⟩ := chain_mem (chain_iff.1 (parsed_ok.1 (allErr_ok h).2).1) b hb
  exact ⟨a, h1, h2, h3, h4, h5 rfl⟩
theorem all_apart {l : List UInt64} (h : allErr l = 0) {a b : Hb} (ha : a ∈ allL l) (hb : b ∈ allL l) : a = b ∨ a.at_ + a.size ≤ b.at_ ∨ b.at_ + b.size ≤ a.at_ :=
  apart_of (chain_apart (chain_iff.1 (parsed_ok.1 (allErr_ok h).2).1)).2 ha hb
theorem objs_mem {L : List Hb} {b : Hb} : b ∈ objs L ↔ b ∈ L ∧ b.kind = 1 := by unfold objs; rw [List.mem_filter]; simp
end Go.Proofs.Ytbfmdbeeiicabaa.L19
namespace Go.Proofs.Ytbfmdbeeiicabaa.L19
open L02 L07 L13 L14 L15 L18
theorem objs_at {l : List UInt64} (h : allErr l = 0) {b : Hb} (hb : b ∈ O19 l) : ∃ a : Nat, 128 ≤ a ∧ b.at_ = a ∧ b.size = szN l a ∧ a + szN l a ≤ l.length ∧ StOk l a ∧ b = stand l a ∧ b.kind = 1 ∧ 2 ≤ szN l a ∧ a % 2 = 0 := by
  obtain ⟨hm, hk⟩ := objs_mem.1 hb
  obtain ⟨a, h1, h2, h3, h4, h5⟩ := all_mem h hm
  have hz := szN_ge h3
  exact ⟨a, h1, by rw [h4]; rfl, by rw [h4]; exact stand_size h3, hz.2.2.2.1, h3, h4, hk, hz.1, h5⟩
/-- a word of an object behind its first two -/
theorem obj_set {l : List UInt64} (h : allErr l = 0) {b : Hb} (hb : b ∈ O19 l) {p : Nat} {v : UInt64} (h1 : b.at_ + 2 ≤ p) (h2 : (p : Int) < b.at_ + b.size) :
    allErr (l.set p v) = 0 ∧ allL (l.set p v) = allL l := by
  obtain ⟨hs, hp⟩ := allErr_ok h
  obtain ⟨hfr, hadj⟩ := parsed_ok.1 hp
  obtain ⟨hbm, hbk⟩ := objs_mem.1 hb
  have far : ∀ c ∈ allL l, c.at_ ≠ (p : Int) ∧ p ≠ c.at_.toNat + 1 := fun c hc => by
    obtain ⟨a, _, _, h3, h4, _⟩ := all_mem h hc
    have hz := szN_ge h3
    have hsz : c.size = szN l a := by rw [h4]; exact stand_size h3
    have hat : c.at_ = a := by rw [h4]; rfl
    rcases all_apart h hbm hc with rfl | h5 | h5 <;> omega
  have hc := chain_set (v := v) (chain_iff.1 hfr) (fun c hc => (far c hc).1)
  have hid : (allL l).map (fun c => { c with next := (l.set p v).getD (c.at_.toNat + 1) 0 }) = allL l := by
    refine List.map_congr_left (g := id) (fun c hc => ?_) |>.trans (List.map_id _)
    obtain ⟨a, _, _, h3, h4, _⟩ := all_mem h hc
    have hat : c.at_ = a := by rw [h4]; rfl
    show { c with next := (l.set p v).getD (c.at_.toNat + 1) 0 } = c
    rw [getD_set_ne (far c hc).2, hat, Int.toNat_natCast]
    rw [h4]; rfl
  rw [hid] at hc
  have hp2 : parsed (l.set p v) = some (allL l) := parsed_ok.2 ⟨from_chain hc, hadj⟩
  have he : allErr (l.set p v) = 0 := by unfold allErr; rw [List.length_set, if_pos hs, hp2]; rfl
  exact ⟨he, by rw [allL, if_pos he, hp2]; rfl⟩
/-- a right image, by its parts -/
structure Rt (l : List UInt64) : Prop where
  sz : SizeOk l.length
  tw : rErr l = 0
  z16 : Zr l 16
  z24 : Zr l 24
  ty : tabErr l (sT l) = 0
  sl : openErr l = 0
  al : allErr l = 0
  good : ∀ i, 7 ≤ i → i < 12 → AllGood l (T19 l) (O19 l) i
  slots : SlotsGood (slots l) (O19 l)
theorem Rt.of {l : List UInt64} (h : chk19 l = 0) : Rt l := by
  obtain ⟨hs, hw⟩ := chk19_ok h
  obtain ⟨h6, hg, hsl⟩ := why_zero.1 hw
  obtain ⟨a, b, c, d, e, f⟩ := why6_zero.1 h6
  exact ⟨hs, a, b, c, d, e, f, hg, hsl⟩
theorem Rt.why {l : List UInt64} (h : Rt l) : why l = 0 := why_zero.2 ⟨why6_zero.2 ⟨h.tw, h.z16, h.z24, h.ty, h.sl, h.al⟩, h.good, h.slots⟩
theorem Rt.chk {l : List UInt64} (h : Rt l) : chk19 l = 0 := by rw [chk19, if_pos h.sz, if_pos h.why]
/-- what a field must hold -/
def FdR (O : List Hb) (k : UInt8) (v : UInt64) : Prop := (k.toNat = 2 → L20.FloatOk v) ∧ (k.toNat = 3 → v = 0 ∨ IsObj O v.toNat)
/-- the parts of an image with another field -/
structure FS (l : List UInt64) (b : Hb) (i p : Nat) (v : UInt64) : Prop where
  tw : rErr (l.set p v) = 0
  sT : sT (l.set p v) = sT l
  z16 : Zr (l.set p v) 16
  z24 : Zr (l.set p v) 24
  ty : tabErr (l.set p v) (L07.sT l) = 0
  tyT : T19 (l.set p v) = T19 l
  sl : openErr (l.set p v) = 0
  slL : slots (l.set p v) = slots l
  al : allErr (l.set p v) = 0
  alL : allL (l.set p v) = allL l
  fwb : fw (l.set p v) b i = v
  fwo : ∀ c ∈ O19 l, ∀ j, j ≤ (kindsB (T19 l) c).length → ((kindsB (T19 l) c).length % 2 = 0 → j < (kindsB (T19 l) c).length) → (c ≠ b ∨ j ≠ i) → fw (l.set p v) c j = fw l c j
theorem Rt.fs {l : List UInt64} (h : Rt l) {b : Hb} (hb : b ∈ O19 l) {i p : Nat} (v : UInt64) (hi : i < (kindsB (T19 l) b).length) (hp : p = b.at_.toNat + 2 + i) : FS l b i p v := by
  obtain ⟨a, h1, h2, h3, h4, h5, h6, h7, h8, _⟩ := objs_at h.al hb
  have hsz := (h.good 8 (by omega) (by omega) b hb).2
  have hpb : b.at_ + 2 ≤ p ∧ (p : Int) < b.at_ + b.size := by omega
  have ho := obj_set (v := v) h.al hb hpb.1 hpb.2
  have a1 := rErr_set (l := l) (v := v) (p := p) (by omega)
  have a4 := tabErr_set (l := l) (v := v) (p := p) (by omega)
  have a5 := open_set (l := l) (v := v) (p := p) (by omega)
  refine ⟨a1.1.trans h.tw, a1.2.1, (zr_set (by omega)).2 h.z16, (zr_set (by omega)).2 h.z24, (a4 _).1.trans h.ty, by unfold T19; rw [a1.2.1, (a4 _).2], a5.1.trans h.sl, a5.2, ho.1, ho.2, ?_, ?_⟩
  · unfold fw; rw [← hp]; exact getD_set_self (by omega)
  · intro c hc j hj hj2 hne
    refine fw_set ?_
    obtain ⟨a', g1, g2, g3, g4, g5, g6, _, _, _⟩ := objs_at h.al hc
    have hsz' := (h.good 8 (by omega) (by omega) c hc).2
    rcases all_apart h.al (objs_mem.1 hb).1 (objs_mem.1 hc).1 with e | h5 | h5
    · subst e
      have := hne.resolve_left (fun h => h rfl)
      omega
    · omega
    · have : (kindsB (T19 l) c).length % 2 = 0 ∨ (kindsB (T19 l) c).length % 2 = 1 := by omega
      omega
/-- the reason of an image with another field -/
theorem FS.why {l : List UInt64} (h : Rt l) {b : Hb} (hb : b ∈ O19 l) {i p : Nat} {v : UInt64} {k : UInt8} (hi : i < (kindsB (T19 l) b).length) (hk : (kindsB (T19 l) b).getD i 0 = k) (f : FS l b i p v) :
    why (l.set p v) = if k.toNat = 2 ∧ ¬ L20.FloatOk v then 10 else if k.toNat = 3 ∧ ¬ (v = 0 ∨ IsObj (O19 l) v.toNat) then 11 else 0 := by
  have eO : O19 (l.set p v) = O19 l := by unfold O19; rw [f.alL]
  have h6 : why6 (l.set p v) = 0 := why6_zero.2 ⟨f.tw, f.z16, f.z24, by rw [f.sT]; exact f.ty, f.sl, f.al⟩
  have g7 : AllGood (l.set p v) (T19 l) (O19 l) 7 := h.good 7 (by omega) (by omega)
  have g8 : AllGood (l.set p v) (T19 l) (O19 l) 8 := h.good 8 (by omega) (by omega)
  have g9 : AllGood (l.set p v) (T19 l) (O19 l) 9 := fun c hc => by
    have := h.good 9 (by omega) (by omega) c hc
    show Padded _ _ _
    have this : Padded l (T19 l) c := this
    rcases this with h1 | h1
    · exact .inl h1
    · by_cases h2 : (kindsB (T19 l) c).length % 2 = 0
      · exact .inl h2
      · refine .inr ?_
        rw [f.fwo c hc _ (Nat.le_refl _) (fun e => absurd e h2)]
        · exact h1
        · by_cases e : c = b
          · subst e; right; omega
          · left; exact e
  have g10 : AllGood (l.set p v) (T19 l) (O19 l) 10 ↔ ¬ (k.toNat = 2 ∧ ¬ L20.FloatOk v) := by
    constructor
    · intro hh h2
      have := hh b hb i hi (by rw [hk]; exact h2.1)
      rw [f.fwb] at this; exact h2.2 this
    · intro hh c hc j hj hj2
      by_cases e : c = b ∧ j = i
      · obtain ⟨rfl, rfl⟩ := e
        rw [f.fwb]
        rw [hk] at hj2
        exact Decidable.not_not.1 fun h3 => hh ⟨hj2, h3⟩
      · rw [f.fwo c hc j (by omega) (fun _ => hj) (by
          by_cases e1 : c = b
          · right; exact fun e2 => e ⟨e1, e2⟩
          · left; exact e1)]
        exact h.good 10 (by omega) (by omega) c hc j hj hj2
  have g11 : AllGood (l.set p v) (T19 l) (O19 l) 11 ↔ ¬ (k.toNat = 3 ∧ ¬ (v = 0 ∨ IsObj (O19 l) v.toNat)) := by
    constructor
    · intro hh h2
      have := hh b hb i hi (by rw [hk]; exact h2.1)
      rw [f.fwb] at this; exact h2.2 this
    · intro hh c hc j hj hj2
      by_cases e : c = b ∧ j = i
      · obtain ⟨rfl, rfl⟩ := e
        rw [f.fwb]
        rw [hk] at hj2
        exact Decidable.not_not.1 fun h3 => hh ⟨hj2, h3⟩
      · rw [f.fwo c hc j (by omega) (fun _ => hj) (by
          by_cases e1 : c = b
          · right; exact fun e2 => e ⟨e1, e2⟩
          · left; exact e1)]
        exact h.good 11 (by omega) (by omega) c hc j hj hj2
  unfold L19.why
  rw [h6, eO, f.tyT, f.slL]
  simp only [whyO, if_pos g7, if_pos g8, if_pos g9]
  have hs := h.slots
  by_cases c2 : k.toNat = 2 ∧ ¬ L20.FloatOk v
  · rw [if_pos c2, if_neg (fun h => g10.1 h c2)]; rfl
  · rw [if_neg c2, if_pos (g10.2 c2)]
    by_cases c3 : k.toNat = 3 ∧ ¬ (v = 0 ∨ IsObj (O19 l) v.toNat)
    · rw [if_pos c3, if_neg (fun h => g11.1 h c3)]; rfl
    · rw [if_neg c3, if_pos (g11.2 c3)]
      simp [hs]
/-- an image with another right field is right -/
theorem FS.rt {l : List UInt64} (h : Rt l) {b : Hb} (hb : b ∈ O19 l) {i p : Nat} {v : UInt64} {k : UInt8} (hi : i < (kindsB (T19 l) b).length) (hk : (kindsB (T19 l) b).getD i 0 = k) (f : FS l b i p v) (hv : FdR (O19 l) k v) : Rt (l.set p v) := by
  refine Rt.of ?_
  rw [chk19, if_pos (by rw [List.length_set]; exact h.sz), if_pos]
  rw [f.why h hb hi hk, if_neg (fun e => e.2 (hv.1 e.1)), if_neg (fun e => e.2 (hv.2 e.1))]
end Go.Proofs.Ytbfmdbeeiicabaa.L19
namespace Go.Proofs.Ytbfmdbeeiicabaa
open Go.RowKit L01 L02 L05 L13 L14 L15 L18 L19
set_option maxHeartbeats 1000000 in
theorem float19_any (x : UInt64) (b : Bool) (hb : b = decide (L20.FloatOk x)) (w : World) : Calls Try.prog 102 #[.int .u64 x.toNat] w fun e w' => e = .returned (.bool b) ∧ Below w.heap.size w w' := by
  have B : Below w.heap.size w w := Below.refl _ _
  have hxl := toNat_lt x
  have e1 := and_int (a := (x.toNat : Int) / 4503599627370496) 11 (by omega) (by omega) 2047 (by decide) (by omega)
  rw [show ((2 ^ 11 : Nat) : Int) = 2048 from rfl] at e1
  have hwr : IntKind.u64.wrap ((x.toNat : Int) * 4096) = (x.toNat : Int) * 4096 % 18446744073709551616 := rfl
  have HB := Lib.hid hb; clear hb
  go_enter Try.func102, Try.ntmps102
  go_wp2
  all_goals
    go_ret
    refine ⟨ret_bool ?_, B⟩
    rw [HB.out]
    first
      | (rw [eq_comm, decide_eq_true_iff]; unfold L20.FloatOk; omega)
      | (rw [Bool.eq_iff_iff, decide_eq_true_iff]; simp only [Bool.or_eq_true, beq_iff_eq]; unfold L20.FloatOk; omega)
set_option maxRecDepth 100000 in
theorem zero19_any (v : Value) (l : List UInt64) (a : Nat) (b : Bool) (hb : b = decide (Zr l a)) (ha : a + 8 ≤ l.length) (hl : l.length ≤ 1000000) (w : World) (h : Words w v l) :
    Calls Try.prog 101 #[v, .int .i64 a] w fun e w' => e = .returned (.bool b) ∧ w = w' := by
  obtain ⟨dv, hcut, hW⟩ := h.cut (P := Try.prog) Try.underlying22 one_u64 (lo := (a : Int)) (hi := (a : Int) + 8) (by omega) (by omega) (by omega)
  obtain ⟨m, hm⟩ : ∃ m, m = (l.drop a).take 8 := ⟨_, rfl⟩
  have hW' : Words w dv m := by
    rw [hm]
    rw [show ((a : Int) + 8).toNat - (a : Int).toNat = 8 by omega, Int.toNat_natCast] at hW
    exact hW
  have hlm : m.length = 8 := by rw [hm, List.length_take, List.length_drop]; omega
  have ln := Rd.len hW' Try.underlying22
  rw [hlm] at ln
  have hget : ∀ i x, m[i]? = some x → l.getD (a + i) 0 = x := fun i x hx => by
    rw [hm] at hx
    have hi : i < 8 := by have := (List.getElem?_eq_some_iff.1 hx).1; simp at this; omega
    rw [List.getElem?_take_of_lt hi, List.getElem?_drop] at hx
    rw [List.getD_eq_getElem?_getD, hx]; rfl
  have hw8 : IntKind.i64.wrap ((a : Int) + 8) = (a : Int) + 8 := IntWalk.i64_in _ (by omega)
  have HB := Lib.hid hb; have HG := Lib.hid hget; have HL := Lib.hid hlm
  clear hb hget hlm hW hm h
  go_enter Try.func101, Try.ntmps101
  go_wp2
  go_loopg [13] 8 (fun g i wr => ∃ j : Nat, j ≤ 8 ∧ g = 8 - j ∧ i = .int .i64 j ∧ wr = w ∧ Hid (∀ i, i < j → l.getD (a + i) 0 = 0))
  case atStart => exact ⟨0, by omega, rfl, rfl, rfl, Lib.hid (fun i hi => by omega)⟩
  case round =>
    obtain ⟨j, hj, rfl, rfl, rfl, hz⟩ := hrel
    by_cases hlt : j < 8
    · obtain ⟨ad, x, ia, m0, hx⟩ := hW'.at_ (P := Try.prog) Try.underlying22 one_u64 (k := j) (by rw [HL.out]; exact hlt)
      have hgx := HG.out j x hx.out
      by_cases hx0 : x = 0
      · have h0 : ((x.toNat : Int) != 0) = false := by rw [hx0]; rfl
        have HZ : Hid (∀ i, i < j + 1 → l.getD (a + i) 0 = 0) := Lib.hid (fun i hi => by
          by_cases e : i = j
          · subst e; rw [hgx, hx0]
          · exact hz.out i (by omega))
        clear hgx hx0
        go_wp2
        go_roundg (8 - (j + 1))
        case measure => omega
        case rel => exact ⟨j + 1, by omega, rfl, by go_num, rfl, HZ⟩
      · have h0 : ((x.toNat : Int) != 0) = true := by rw [bne_iff_ne]; intro e; exact hx0 (UInt64.toNat.inj (by simp; omega))
        have hb : b = false := by rw [HB.out, decide_eq_false_iff_not]; exact fun h => hx0 (by rw [← hgx]; exact h j hlt)
        subst hb
        clear hgx hx0
        go_wp2
        go_ret
        exact ⟨rfl, rfl⟩
    · obtain rfl : j = 8 := by omega
      have hb : b = true := by rw [HB.out, decide_eq_true_iff]; exact hz.out
      subst hb
      go_wp2
      go_ret
      exact ⟨rfl, rfl⟩
/-- what is known of an image: its words, its types, its slots, its objects and their addresses -/
structure Sg (W : World) (v tv sv bv : Value) (g n : Nat) (l : List UInt64) (T : List (List UInt8)) (S : List Sl) (O : List Hb) : Prop where
  w : Words W v l
  t : Typs W tv T
  s : Slots W sv S
  b : Blks W bv O
  m : MapL Try.prog 3 4 (.bool false) W g n (fun a => .bool (decide (IsObj O a)))
theorem Sg.below {W W' : World} {v tv sv bv : Value} {g n : Nat} {l : List UInt64} {T : List (List UInt8)} {S : List Sl} {O : List Hb} (h : Sg W v tv sv bv g n l T S O) (hb : Below W.heap.size W W') : Sg W' v tv sv bv g n l T S O :=
  ⟨h.w.below hb, h.t.below hb, Slots.below h.s hb, h.b.below hb, h.m.below hb⟩
theorem zero_bool (W : World) : (zeroValue 4).run Try.prog W = .ok (.bool false) W := by kernel_rfl
theorem Sg.look {W : World} {v tv sv bv : Value} {g n : Nat} {l : List UInt64} {T : List (List UInt8)} {S : List Sl} {O : List Hb} (h : Sg W v tv sv bv g n l T S O) {a : Int} (ha : i64Ok a) :
    (Instr.lookup 109 (.map (some g)) (.int .i64 a) false).run Try.prog W = .ok (.bool (decide (IsObj O a))) W := h.m.lookB Try.underlying3 Try.underlying109 Try.underlying4 (zero_bool W) ha
/-- an object lies in its image -/
def In19 (l : List UInt64) (b : Hb) : Prop := ∃ a : Nat, b.at_ = a ∧ BkOk b ∧ (a : Int) + b.size ≤ l.length
set_option maxRecDepth 100000 in
set_option maxHeartbeats 1000000 in
theorem idleB_any (v tv sv bv : Value) (g : Nat) (b : Hb) (c : Bool) (hc : c = decide (Idle b)) (w : World) :
    Calls Try.prog 63 #[.agg #[v, tv, sv, bv, .map (some g)], .agg #[.int .i64 b.at_, .int .i64 b.size, .int .i64 b.kind, .int .i64 b.ty, .bool b.mark, .int .u64 b.next.toNat]] w fun e w' => e = .returned (.bool c) ∧ Below w.heap.size w w' := by
  have B : Below w.heap.size w w := Below.refl _ _
  have HC := Lib.hid hc; clear hc
  obtain ⟨at_, size, kind, ty, mark, next⟩ := b
  dsimp only at *
  have hn0 : ((next.toNat : Int) == 0) = decide (next = 0) := by
    rw [Bool.eq_iff_iff, beq_iff_eq, decide_eq_true_iff]
    exact ⟨fun e => UInt64.toNat.inj (by simp; omega), fun e => by rw [e]; rfl⟩
  obtain ⟨q, hq⟩ : ∃ q, q = decide (next = 0) := ⟨_, rfl⟩
  rw [← hq] at hn0
  have hc : c = (!mark && q) := by rw [HC.out, hq]; unfold Idle; cases mark <;> simp
  clear HC hq
  cases mark
  all_goals
    go_enter Try.func63, Try.ntmps63
    go_wp2
    go_ret
    refine ⟨by rw [hc]; rfl, ?_⟩
    (repeat (first | refine Below.setCell ?_ (by first | exact Nat.le_refl _ | (simp <;> omega)) _ | refine Below.alloc ?_ (by first | exact B.size | (have := B.size; simp <;> omega)) _)); exact B
set_option maxRecDepth 100000 in
set_option maxHeartbeats 1000000 in
theorem typedB_any (v tv sv bv : Value) (g : Nat) (T : List (List UInt8)) (b : Hb) (c : Bool) (hc : c = decide (Typed T b)) (h0 : 0 ≤ b.ty) (hT : ∀ t ∈ T, kErr t = 0) (w : World) (h : Typs w tv T) :
    Calls Try.prog 64 #[.agg #[v, tv, sv, bv, .map (some g)], .agg #[.int .i64 b.at_, .int .i64 b.size, .int .i64 b.kind, .int .i64 b.ty, .bool b.mark, .int .u64 b.next.toNat]] w fun e w' => e = .returned (.bool c) ∧ Below w.heap.size w w' := by
  have B : Below w.heap.size w w := Below.refl _ _
  have lt := h.len
  obtain ⟨NT, hNT⟩ : ∃ N, N = T.length := ⟨_, rfl⟩
  rw [← hNT] at lt
  by_cases hlt : b.ty < T.length
  · obtain ⟨q, hq⟩ := Int.eq_ofNat_of_zero_le h0
    obtain ⟨at_, size, kind, ty, mark, next⟩ := b
    dsimp only at *
    subst hq
    have hqT : q < T.length := by omega
    obtain ⟨ad, x, t, it, m0, ht, hx⟩ := h.at_ (k := q) hqT
    have hk : kErr t = 0 := hT t (List.mem_of_getElem? ht.out)
    obtain ⟨n, hn⟩ : ∃ n, n = kSize t := ⟨_, rfl⟩
    have KT := Lib.hid (fun w h => KSize_any x t n 0 hn hk.symm w h)
    have hck : c = decide (n = size) := by
      rw [hc, Bool.eq_iff_iff, decide_eq_true_iff, decide_eq_true_iff]
      unfold Typed kindsB
      rw [Int.toNat_natCast, List.getD_eq_getElem?_getD, ht.out, hn, kSize, if_pos hk]
      simp only [Option.getD_some]
      exact ⟨fun h => h.2.symm, fun h => ⟨hlt, h.symm⟩⟩
    have n1 : ¬ (NT : Int) ≤ (q : Int) := by omega
    have HX := hx
    have HC := Lib.hid hck
    clear hc hT hk hn ht hx hck hlt hqT h0 hNT
    go_enter Try.func64, Try.ntmps64
    go_upto_region 1 with (fail)
    refine wp_gen (fun Wv => Bx Wv (w.heap.size) (111) (#[v, tv, sv, bv, .map (some g)]) ∧ Bx Wv (w.heap.size + 1) (38) (#[.int .i64 at_, .int .i64 size, .int .i64 kind, .int .i64 q, .bool mark, .int .u64 next.toNat]) ∧ Below w.heap.size w Wv) ⟨(((Bx.at_ (by simp)).alloc _)), ((Bx.at_ (by simp))), (((Below.refl _ w).alloc (by simp <;> omega) _).alloc (by simp <;> omega) _)⟩ ?_
    rintro wa1 ⟨g1, g2, b⟩
    replace m0 := cell_later b m0; replace B := B.trans (b.mono B.size); clear b
    have c_g1 := g1.cell; have f_g1 := g1.free; have a_g1 := fun o => (g1.alloc o).cell; have d_g1 := fun o o2 => ((g1.alloc o).alloc o2).cell; have e_g1 := fun o => (g1.alloc o).free
    have c_g2 := g2.cell; have f_g2 := g2.free; have a_g2 := fun o => (g2.alloc o).cell; have d_g2 := fun o o2 => ((g2.alloc o).alloc o2).cell; have e_g2 := fun o => (g2.alloc o).free
    go_wp2_with fail
    refine (KT.out _ (Byts.below HX.out B)).mono ?_
    rintro e w' ⟨rfl, rfl⟩
    go_wp2
    go_ret
    refine ⟨ret_bool ?_, B⟩
    rw [HC.out, Bool.eq_iff_iff, beq_iff_eq, decide_eq_true_iff]
  · have hc0 : c = false := by rw [hc, decide_eq_false_iff_not]; exact fun h => hlt h.1
    obtain ⟨at_, size, kind, ty, mark, next⟩ := b
    dsimp only at *
    have n1 : (NT : Int) ≤ ty := by omega
    subst hc0
    clear hc hT hlt hNT h
    go_enter Try.func64, Try.ntmps64
    go_upto_region 1 with (fail)
    refine wp_gen (fun Wv => Bx Wv (w.heap.size) (111) (#[v, tv, sv, bv, .map (some g)]) ∧ Bx Wv (w.heap.size + 1) (38) (#[.int .i64 at_, .int .i64 size, .int .i64 kind, .int .i64 ty, .bool mark, .int .u64 next.toNat]) ∧ Below w.heap.size w Wv) ⟨(((Bx.at_ (by simp)).alloc _)), ((Bx.at_ (by simp))), (((Below.refl _ w).alloc (by simp <;> omega) _).alloc (by simp <;> omega) _)⟩ ?_
    rintro wa1 ⟨g1, g2, b⟩
    replace B := B.trans (b.mono B.size); clear b
    have c_g1 := g1.cell; have f_g1 := g1.free; have a_g1 := fun o => (g1.alloc o).cell; have d_g1 := fun o o2 => ((g1.alloc o).alloc o2).cell; have e_g1 := fun o => (g1.alloc o).free
    have c_g2 := g2.cell; have f_g2 := g2.free; have a_g2 := fun o => (g2.alloc o).cell; have d_g2 := fun o o2 => ((g2.alloc o).alloc o2).cell; have e_g2 := fun o => (g2.alloc o).free
    go_wp2
    go_ret
    exact ⟨rfl, B⟩
end Go.Proofs.Ytbfmdbeeiicabaa
namespace Go.Proofs.Ytbfmdbeeiicabaa
open Go.RowKit L01 L02 L05 L13 L14 L15 L18 L19
/-- the kinds of the fields of an object, and where its words lie -/
theorem in_kinds {l : List UInt64} {T : List (List UInt8)} {b : Hb} (hi : In19 l b) (ht : Typed T b) : ∃ (a q : Nat) (t : List UInt8), b.at_ = a ∧ b.ty = q ∧ T[q]? = some t ∧ kindsB T b = t ∧ 128 ≤ a + 128 ∧ a + 2 + t.length ≤ l.length ∧ (t.length % 2 = 1 → a + 2 + t.length < l.length) := by
  obtain ⟨a, ha, hok, hle⟩ := hi
  have hb := hok.bounds
  obtain ⟨q, hq⟩ := Int.eq_ofNat_of_zero_le hb.2.2.2.2.1
  have hlt : q < T.length := by have := ht.1; omega
  have hT : T[q]? = some T[q] := List.getElem?_eq_getElem hlt
  have hk : kindsB T b = T[q] := by unfold kindsB; rw [hq, Int.toNat_natCast, List.getD_eq_getElem?_getD, hT]; rfl
  have hs := ht.2
  rw [hk] at hs
  exact ⟨a, q, T[q], ha, hq, hT, hk, by omega, by omega, fun h => by omega⟩
set_option maxRecDepth 100000 in
set_option maxHeartbeats 1000000 in
theorem paddedB_any (v tv sv bv : Value) (g : Nat) (l : List UInt64) (T : List (List UInt8)) (b : Hb) (c : Bool) (hc : c = decide (Padded l T b)) (hi : In19 l b) (hty : Typed T b) (hl : l.length ≤ 1000000) (w : World) (hw : Words w v l) (h : Typs w tv T) :
    Calls Try.prog 65 #[.agg #[v, tv, sv, bv, .map (some g)], .agg #[.int .i64 b.at_, .int .i64 b.size, .int .i64 b.kind, .int .i64 b.ty, .bool b.mark, .int .u64 b.next.toNat]] w fun e w' => e = .returned (.bool c) ∧ Below w.heap.size w w' := by
  have B : Below w.heap.size w w := Below.refl _ _
  obtain ⟨a, q, t, ha, hq, hT, hk, _, hle, hodd⟩ := in_kinds hi hty
  obtain ⟨ad, x, t', it, m0, ht', hx⟩ := h.at_ (k := q) (List.getElem?_eq_some_iff.1 hT).1
  obtain rfl : t' = t := by have := ht'.out; rw [hT] at this; injection this with this; exact this.symm
  obtain ⟨n, hn⟩ : ∃ n, n = t'.length := ⟨_, rfl⟩
  have lx := Rd.len hx.out Try.underlying44
  rw [← hn] at lx hle hodd
  have hcp : c = decide (n % 2 = 0 ∨ fw l b n = 0) := by rw [hc, Bool.eq_iff_iff, decide_eq_true_iff, decide_eq_true_iff]; unfold Padded; rw [hk, ← hn]
  obtain ⟨at_, size, kind, ty, mark, next⟩ := b
  dsimp only at ha hq
  subst ha; subst hq
  have hfw : fw l ⟨(a : Int), size, kind, (q : Int), mark, next⟩ n = l.getD (a + 2 + n) 0 := by unfold fw; rw [Int.toNat_natCast]
  rw [hfw] at hcp
  have HC := Lib.hid hcp
  have hw1 : IntKind.i64.wrap ((a : Int) + 2) = (a : Int) + 2 := IntWalk.i64_in _ (by omega)
  have hw2 : IntKind.i64.wrap ((a : Int) + 2 + (n : Int)) = (a : Int) + 2 + (n : Int) := IntWalk.i64_in _ (by omega)
  have HH := Lib.hid hn
  by_cases hev : n % 2 = 0
  · have e1 : ((n : Int).tmod 2 == 0) = true := by rw [beq_iff_eq, Int.tmod_eq_emod_of_nonneg (by omega)]; omega
    have e2 : ((n : Int) % 2 == 0) = true := by rw [beq_iff_eq]; omega
    have e3 : (n : Int).tmod 2 = 0 := by rw [Int.tmod_eq_emod_of_nonneg (by omega)]; omega
    have hc1 : c = true := by rw [hcp, decide_eq_true_iff]; exact .inl hev
    subst hc1
    clear hc hi hty hT hk hle hodd ht' hx hcp hfw hn hw h
    go_enter Try.func65, Try.ntmps65
    go_upto_region 1 with (fail)
    refine wp_gen (fun Wv => Bx Wv (w.heap.size) (111) (#[v, tv, sv, bv, .map (some g)]) ∧ Bx Wv (w.heap.size + 1) (38) (#[.int .i64 a, .int .i64 size, .int .i64 kind, .int .i64 q, .bool mark, .int .u64 next.toNat]) ∧ Below w.heap.size w Wv) ⟨(((Bx.at_ (by simp)).alloc _)), ((Bx.at_ (by simp))), (((Below.refl _ w).alloc (by simp <;> omega) _).alloc (by simp <;> omega) _)⟩ ?_
    rintro wa1 ⟨g1, g2, b⟩
    replace m0 := cell_later b m0; replace B := B.trans (b.mono B.size); clear b
    have c_g1 := g1.cell; have f_g1 := g1.free; have a_g1 := fun o => (g1.alloc o).cell; have d_g1 := fun o o2 => ((g1.alloc o).alloc o2).cell; have e_g1 := fun o => (g1.alloc o).free
    have c_g2 := g2.cell; have f_g2 := g2.free; have a_g2 := fun o => (g2.alloc o).cell; have d_g2 := fun o o2 => ((g2.alloc o).alloc o2).cell; have e_g2 := fun o => (g2.alloc o).free
    go_wp2
    go_ret
    exact ⟨rfl, B⟩
  · have e1 : ((n : Int).tmod 2 == 0) = false := by rw [beq_eq_false_iff_ne, Int.tmod_eq_emod_of_nonneg (by omega)]; omega
    have e2 : ((n : Int) % 2 == 0) = false := by rw [beq_eq_false_iff_ne]; omega
    have e3 : (n : Int).tmod 2 = 1 := by rw [Int.tmod_eq_emod_of_nonneg (by omega)]; omega
    obtain ⟨ad2, y, iy, m1, hy⟩ := hw.at_ (P := Try.prog) Try.underlying22 one_u64 (k := a + 2 + n) (hodd (by omega))
    have iy2 : ∀ W, (Instr.indexAt 22 v (.int .i64 ((a : Int) + 2 + (n : Int)))).run Try.prog W = .ok (.pointer (some ad2)) W := iy
    have hgy : l.getD (a + 2 + n) 0 = y := by rw [List.getD_eq_getElem?_getD, hy.out]; rfl
    have hc1 : c = decide (y = 0) := by rw [hcp, hgy]; simp [hev]
    have hy0 : ((y.toNat : Int) == 0) = c := by
      rw [hc1, Bool.eq_iff_iff, beq_iff_eq, decide_eq_true_iff]
      exact ⟨fun e => UInt64.toNat.inj (by simp; omega), fun e => by rw [e]; rfl⟩
    clear hc hi hty hT hk hle hodd ht' hx hcp hfw hn hw h hgy hc1 hy HC
    go_enter Try.func65, Try.ntmps65
    go_upto_region 1 with (fail)
    refine wp_gen (fun Wv => Bx Wv (w.heap.size) (111) (#[v, tv, sv, bv, .map (some g)]) ∧ Bx Wv (w.heap.size + 1) (38) (#[.int .i64 a, .int .i64 size, .int .i64 kind, .int .i64 q, .bool mark, .int .u64 next.toNat]) ∧ Below w.heap.size w Wv) ⟨(((Bx.at_ (by simp)).alloc _)), ((Bx.at_ (by simp))), (((Below.refl _ w).alloc (by simp <;> omega) _).alloc (by simp <;> omega) _)⟩ ?_
    rintro wa1 ⟨g1, g2, b⟩
    replace m0 := cell_later b m0; replace m1 := cell_later b m1; replace B := B.trans (b.mono B.size); clear b
    have c_g1 := g1.cell; have f_g1 := g1.free; have a_g1 := fun o => (g1.alloc o).cell; have d_g1 := fun o o2 => ((g1.alloc o).alloc o2).cell; have e_g1 := fun o => (g1.alloc o).free
    have c_g2 := g2.cell; have f_g2 := g2.free; have a_g2 := fun o => (g2.alloc o).cell; have d_g2 := fun o o2 => ((g2.alloc o).alloc o2).cell; have e_g2 := fun o => (g2.alloc o).free
    go_wp2
    go_ret
    exact ⟨rfl, B⟩
set_option maxRecDepth 100000 in
set_option maxHeartbeats 2000000 in
theorem floatsB_any (v tv sv bv : Value) (g : Nat) (l : List UInt64) (T : List (List UInt8)) (b : Hb) (c : Bool) (hc : c = decide (FloatsB l T b)) (hi : In19 l b) (hty : Typed T b) (hl : l.length ≤ 1000000) (w : World) (hw : Words w v l) (h : Typs w tv T) :
    Calls Try.prog 66 #[.agg #[v, tv, sv, bv, .map (some g)], .agg #[.int .i64 b.at_, .int .i64 b.size, .int .i64 b.kind, .int .i64 b.ty, .bool b.mark, .int .u64 b.next.toNat]] w fun e w' => e = .returned (.bool c) ∧ Below w.heap.size w w' := by
  have B : Below w.heap.size w w := Below.refl _ _
  obtain ⟨a, q, t, ha, hq, hT, hk, _, hle, _⟩ := in_kinds hi hty
  obtain ⟨ad, x, t', it, m0, ht', hx⟩ := h.at_ (k := q) (List.getElem?_eq_some_iff.1 hT).1
  obtain rfl : t' = t := by have := ht'.out; rw [hT] at this; injection this with this; exact this.symm
  obtain ⟨n, hn⟩ : ∃ n, n = t'.length := ⟨_, rfl⟩
  have lx := Rd.len hx.out Try.underlying44
  rw [← hn] at lx hle
  have hcp : c = decide (∀ i, i < n → (t'.getD i 0).toNat = 2 → L20.FloatOk (fw l b i)) := by rw [hc, Bool.eq_iff_iff, decide_eq_true_iff, decide_eq_true_iff]; unfold FloatsB; rw [hk, ← hn]
  obtain ⟨at_, size, kind, ty, mark, next⟩ := b
  dsimp only at ha hq
  subst ha; subst hq
  have hfw : ∀ i, fw l ⟨(a : Int), size, kind, (q : Int), mark, next⟩ i = l.getD (a + 2 + i) 0 := fun i => by unfold fw; rw [Int.toNat_natCast]
  have HC := Lib.hid (And.intro hcp hfw)
  have hw1 : IntKind.i64.wrap ((a : Int) + 2) = (a : Int) + 2 := IntWalk.i64_in _ (by omega)
  have HH := Lib.hid hn; have HX := hx; have HW := Lib.hid hw
  have HN := Lib.hid (And.intro hle hl)
  have hnb : n ≤ 1000000 := by omega
  clear hc hi hty hT hk hle ht' hx hcp hfw hn hw h hl
  go_enter Try.func66, Try.ntmps66
  go_upto_region 1 with (fail)
  refine wp_gen (fun Wv => Bx Wv (w.heap.size) (111) (#[v, tv, sv, bv, .map (some g)]) ∧ Bx Wv (w.heap.size + 1) (38) (#[.int .i64 a, .int .i64 size, .int .i64 kind, .int .i64 q, .bool mark, .int .u64 next.toNat]) ∧ Below w.heap.size w Wv) ⟨(((Bx.at_ (by simp)).alloc _)), ((Bx.at_ (by simp))), (((Below.refl _ w).alloc (by simp <;> omega) _).alloc (by simp <;> omega) _)⟩ ?_
  rintro wa1 ⟨g1, g2, b⟩
  replace m0 := cell_later b m0; replace B := B.trans (b.mono B.size); clear b
  have c_g1 := g1.cell; have f_g1 := g1.free; have a_g1 := fun o => (g1.alloc o).cell; have d_g1 := fun o o2 => ((g1.alloc o).alloc o2).cell; have e_g1 := fun o => (g1.alloc o).free
  have c_g2 := g2.cell; have f_g2 := g2.free; have a_g2 := fun o => (g2.alloc o).cell; have d_g2 := fun o o2 => ((g2.alloc o).alloc o2).cell; have e_g2 := fun o => (g2.alloc o).free
  go_wp2
  go_loopg [14] n (fun gg i wr => ∃ j : Nat, j ≤ n ∧ gg = n - j ∧ i = .int .i64 j ∧ Hid (Bx wr w.heap.size 111 #[v, tv, sv, bv, .map (some g)] ∧ Bx wr (w.heap.size + 1) 38 #[.int .i64 a, .int .i64 size, .int .i64 kind, .int .i64 q, .bool mark, .int .u64 next.toNat] ∧ Below w.heap.size w wr) ∧ Hid (∀ i, i < j → (t'.getD i 0).toNat = 2 → L20.FloatOk (l.getD (a + 2 + i) 0)))
  case atStart => exact ⟨0, by omega, rfl, rfl, Lib.hid ⟨g1, g2, B⟩, Lib.hid (fun i hi => by omega)⟩
  case round =>
    obtain ⟨j, hj, rfl, rfl, hh, hz⟩ := hrel
    clear g1 g2 B m0 c_g1 f_g1 a_g1 d_g1 e_g1 c_g2 f_g2 a_g2 d_g2 e_g2
    obtain ⟨g1, g2, B⟩ := hh.out
    have c_g1 := g1.cell; have c_g2 := g2.cell
    by_cases hlt : j < n
    · obtain ⟨ak, kd, ik, mk, hkd⟩ := (Byts.below HX.out B).at_ (P := Try.prog) Try.underlying44 one_u8 (k := j) (by rw [← HH.out]; exact hlt)
      have hgk : t'.getD j 0 = kd := by rw [List.getD_eq_getElem?_getD, hkd.out]; rfl
      by_cases hk2 : kd.toNat = 2
      · obtain ⟨ad2, y, iy, m2, hy⟩ := (HW.out.below B).at_ (P := Try.prog) Try.underlying22 one_u64 (k := a + 2 + j) (by have := HN.out.1; omega)
        have iy2 : ∀ W, (Instr.indexAt 22 v (.int .i64 ((a : Int) + 2 + (j : Int)))).run Try.prog W = .ok (.pointer (some ad2)) W := iy
        have hgy : l.getD (a + 2 + j) 0 = y := by rw [List.getD_eq_getElem?_getD, hy.out]; rfl
        have hw2 : IntKind.i64.wrap ((a : Int) + 2 + (j : Int)) = (a : Int) + 2 + (j : Int) := IntWalk.i64_in _ (by have := HN.out; omega)
        obtain ⟨fb, hfb⟩ : ∃ fb, fb = decide (L20.FloatOk y) := ⟨_, rfl⟩
        have FT := Lib.hid (fun w => float19_any y fb hfb w)
        rw [hk2] at mk
        cases fb
        · have hno : ¬ L20.FloatOk y := of_decide_eq_false hfb.symm
          have hc0 : c = false := by
            rw [HC.out.1, decide_eq_false_iff_not]
            intro hall
            have := hall j hlt (by rw [hgk]; exact hk2)
            rw [HC.out.2, hgy] at this
            exact hno this
          subst hc0
          clear hfb hno hgy hy hgk hk2 hkd iy
          go_wp2_with fail
          refine (FT.out _).mono ?_
          rintro e wa2 ⟨rfl, b⟩
          try clear c_g1 f_g1 a_g1 d_g1 e_g1
          replace g1 := g1.below b; have c_g1 := g1.cell; have f_g1 := g1.free; have a_g1 := fun o => (g1.alloc o).cell; have d_g1 := fun o o2 => ((g1.alloc o).alloc o2).cell; have e_g1 := fun o => (g1.alloc o).free; try clear c_g2 f_g2 a_g2 d_g2 e_g2
          replace g2 := g2.below b; have c_g2 := g2.cell; have f_g2 := g2.free; have a_g2 := fun o => (g2.alloc o).cell; have d_g2 := fun o o2 => ((g2.alloc o).alloc o2).cell; have e_g2 := fun o => (g2.alloc o).free; replace m2 := cell_later b m2; replace B := B.trans (b.mono B.size); clear b
          go_wp2
          go_ret
          exact ⟨rfl, B⟩
        · have hyes : L20.FloatOk y := of_decide_eq_true hfb.symm
          have HZ : Hid (∀ i, i < j + 1 → (t'.getD i 0).toNat = 2 → L20.FloatOk (l.getD (a + 2 + i) 0)) := Lib.hid (fun i hi h2 => by
            by_cases e : i = j
            · subst e; rw [hgy]; exact hyes
            · exact hz.out i (by omega) h2)
          clear hfb hyes hgy hy hgk hk2 hkd iy
          go_wp2_with fail
          refine (FT.out _).mono ?_
          rintro e wa3 ⟨rfl, b⟩
          try clear c_g1 f_g1 a_g1 d_g1 e_g1
          replace g1 := g1.below b; have c_g1 := g1.cell; have f_g1 := g1.free; have a_g1 := fun o => (g1.alloc o).cell; have d_g1 := fun o o2 => ((g1.alloc o).alloc o2).cell; have e_g1 := fun o => (g1.alloc o).free; try clear c_g2 f_g2 a_g2 d_g2 e_g2
          replace g2 := g2.below b; have c_g2 := g2.cell; have f_g2 := g2.free; have a_g2 := fun o => (g2.alloc o).cell; have d_g2 := fun o o2 => ((g2.alloc o).alloc o2).cell; have e_g2 := fun o => (g2.alloc o).free; replace m2 := cell_later b m2; replace B := B.trans (b.mono B.size); clear b
          have HG := Lib.hid (And.intro g1 (And.intro g2 B))
          go_wp2
          go_roundg (n - (j + 1))
          case measure => omega
          case rel => exact ⟨j + 1, by omega, rfl, by go_num, HG, HZ⟩
      · have hk3 : ((kd.toNat : Int) == 2) = false := by rw [beq_eq_false_iff_ne]; omega
        have HZ : Hid (∀ i, i < j + 1 → (t'.getD i 0).toNat = 2 → L20.FloatOk (l.getD (a + 2 + i) 0)) := Lib.hid (fun i hi h2 => by
          by_cases e : i = j
          · subst e; rw [hgk] at h2; exact absurd h2 hk2
          · exact hz.out i (by omega) h2)
        have HG := Lib.hid (And.intro g1 (And.intro g2 B))
        clear hgk hk2 hkd
        go_wp2
        go_roundg (n - (j + 1))
        case measure => omega
        case rel => exact ⟨j + 1, by omega, rfl, by go_num, HG, HZ⟩
    · obtain rfl : j = n := by omega
      have hc1 : c = true := by rw [HC.out.1, decide_eq_true_iff]; intro i hi h2; rw [HC.out.2]; exact hz.out i hi h2
      subst hc1
      go_wp2
      go_ret
      exact ⟨rfl, B⟩
set_option maxRecDepth 100000 in
set_option maxHeartbeats 2000000 in
theorem refsB_any (v tv sv bv : Value) (g gn : Nat) (l : List UInt64) (T : List (List UInt8)) (S : List Sl) (O : List Hb) (b : Hb) (c : Bool) (hc : c = decide (RefsB l T O b)) (hi : In19 l b) (hty : Typed T b) (hl : l.length ≤ 1000000) (hO : ∀ b ∈ O, b.at_ < l.length) (w : World) (h : Sg w v tv sv bv g gn l T S O) :
    Calls Try.prog 67 #[.agg #[v, tv, sv, bv, .map (some g)], .agg #[.int .i64 b.at_, .int .i64 b.size, .int .i64 b.kind, .int .i64 b.ty, .bool b.mark, .int .u64 b.next.toNat]] w fun e w' => e = .returned (.bool c) ∧ Below w.heap.size w w' := by
  have B : Below w.heap.size w w := Below.refl _ _
  obtain ⟨a, q, t, ha, hq, hT, hk, _, hle, _⟩ := in_kinds hi hty
  obtain ⟨ad, x, t', it, m0, ht', hx⟩ := h.t.at_ (k := q) (List.getElem?_eq_some_iff.1 hT).1
  obtain rfl : t' = t := by have := ht'.out; rw [hT] at this; injection this with this; exact this.symm
  obtain ⟨n, hn⟩ : ∃ n, n = t'.length := ⟨_, rfl⟩
  have lx := Rd.len hx.out Try.underlying44
  rw [← hn] at lx hle
  obtain ⟨N, hN⟩ : ∃ N, N = l.length := ⟨_, rfl⟩
  have lw := Rd.len h.w Try.underlying22
  rw [← hN] at lw hle hl
  have hcp : c = decide (∀ i, i < n → (t'.getD i 0).toNat = 3 → (fw l b i = 0 ∨ IsObj O (fw l b i).toNat)) := by rw [hc, Bool.eq_iff_iff, decide_eq_true_iff, decide_eq_true_iff]; unfold RefsB; rw [hk, ← hn]
  obtain ⟨at_, size, kind, ty, mark, next⟩ := b
  dsimp only at ha hq
  subst ha; subst hq
  have hfw : ∀ i, fw l ⟨(a : Int), size, kind, (q : Int), mark, next⟩ i = l.getD (a + 2 + i) 0 := fun i => by unfold fw; rw [Int.toNat_natCast]
  have HC := Lib.hid (And.intro hcp hfw)
  have hw1 : IntKind.i64.wrap ((a : Int) + 2) = (a : Int) + 2 := IntWalk.i64_in _ (by omega)
  have hw4 : IntKind.u64.wrap (N : Int) = (N : Int) := by rw [wrap_u64]; omega
  have HH := Lib.hid hn; have HX := hx; have HW := Lib.hid h; have HNN := Lib.hid hN; have HO := Lib.hid hO
  have HN := Lib.hid (And.intro hle hl)
  have hnb : n ≤ 1000000 := by omega
  clear hc hi hty hT hk hle ht' hx hcp hfw hn h hl hN hO
  go_enter Try.func67, Try.ntmps67
  go_upto_region 1 with (fail)
  refine wp_gen (fun Wv => Bx Wv (w.heap.size) (111) (#[v, tv, sv, bv, .map (some g)]) ∧ Bx Wv (w.heap.size + 1) (38) (#[.int .i64 a, .int .i64 size, .int .i64 kind, .int .i64 q, .bool mark, .int .u64 next.toNat]) ∧ Below w.heap.size w Wv) ⟨(((Bx.at_ (by simp)).alloc _)), ((Bx.at_ (by simp))), (((Below.refl _ w).alloc (by simp <;> omega) _).alloc (by simp <;> omega) _)⟩ ?_
  rintro wa1 ⟨g1, g2, b⟩
  replace m0 := cell_later b m0; replace B := B.trans (b.mono B.size); clear b
  have c_g1 := g1.cell; have f_g1 := g1.free; have a_g1 := fun o => (g1.alloc o).cell; have d_g1 := fun o o2 => ((g1.alloc o).alloc o2).cell; have e_g1 := fun o => (g1.alloc o).free
  have c_g2 := g2.cell; have f_g2 := g2.free; have a_g2 := fun o => (g2.alloc o).cell; have d_g2 := fun o o2 => ((g2.alloc o).alloc o2).cell; have e_g2 := fun o => (g2.alloc o).free
  go_wp2
  go_loopg [15] n (fun gg i wr => ∃ j : Nat, j ≤ n ∧ gg = n - j ∧ i = .int .i64 j ∧ wr = wa1 ∧ Hid (∀ i, i < j → (t'.getD i 0).toNat = 3 → (l.getD (a + 2 + i) 0 = 0 ∨ IsObj O (l.getD (a + 2 + i) 0).toNat)))
  case atStart => exact ⟨0, by omega, rfl, rfl, rfl, Lib.hid (fun i hi => by omega)⟩
  case round =>
    obtain ⟨j, hj, rfl, rfl, rfl, hz⟩ := hrel
    by_cases hlt : j < n
    · obtain ⟨ak, kd, ik, mk, hkd⟩ := (Byts.below HX.out B).at_ (P := Try.prog) Try.underlying44 one_u8 (k := j) (by rw [← HH.out]; exact hlt)
      have hgk : t'.getD j 0 = kd := by rw [List.getD_eq_getElem?_getD, hkd.out]; rfl
      obtain ⟨ad2, y, iy, m2, hy⟩ := (HW.out.below B).w.at_ (P := Try.prog) Try.underlying22 one_u64 (k := a + 2 + j) (by have := HN.out.1; rw [← HNN.out]; omega)
      have iy2 : ∀ W, (Instr.indexAt 22 v (.int .i64 ((a : Int) + 2 + (j : Int)))).run Try.prog W = .ok (.pointer (some ad2)) W := iy
      have hgy : l.getD (a + 2 + j) 0 = y := by rw [List.getD_eq_getElem?_getD, hy.out]; rfl
      have hw2 : IntKind.i64.wrap ((a : Int) + 2 + (j : Int)) = (a : Int) + 2 + (j : Int) := IntWalk.i64_in _ (by have := HN.out; omega)
      have hstep : ((t'.getD j 0).toNat = 3 → (y = 0 ∨ IsObj O y.toNat)) → Hid (∀ i, i < j + 1 → (t'.getD i 0).toNat = 3 → (l.getD (a + 2 + i) 0 = 0 ∨ IsObj O (l.getD (a + 2 + i) 0).toNat)) := fun hh => Lib.hid (fun i hi h2 => by
        by_cases e : i = j
        · subst e; rw [hgy]; exact hh h2
        · exact hz.out i (by omega) h2)
      have hfall : (t'.getD j 0).toNat = 3 → ¬ (y = 0 ∨ IsObj O y.toNat) → c = false := fun h3 hno => by
        rw [HC.out.1, decide_eq_false_iff_not]
        intro hall
        have := hall j hlt h3
        rw [HC.out.2, hgy] at this
        exact hno this
      by_cases hk3 : kd.toNat = 3
      · rw [hk3] at mk
        by_cases hy0 : y = 0
        · have h0 : ((y.toNat : Int) != 0) = false := by rw [hy0]; rfl
          have HZ := hstep (fun _ => .inl hy0)
          clear hstep hfall hgy hgk hy0 hy hkd hk3 iy
          go_wp2
          go_roundg (n - (j + 1))
          case measure => omega
          case rel => exact ⟨j + 1, by omega, rfl, by go_num, rfl, HZ⟩
        · have h0 : ((y.toNat : Int) != 0) = true := by rw [bne_iff_ne]; intro e; exact hy0 (UInt64.toNat.inj (by simp; omega))
          by_cases hyN : y.toNat < N
          · have h1 : ¬ ((N : Int) ≤ (y.toNat : Int)) := by omega
            have h2 : decide ((N : Int) ≤ (y.toNat : Int)) = false := decide_eq_false h1
            have h3 : decide (N ≤ y.toNat) = false := decide_eq_false (by omega)
            have hw3 : IntKind.i64.wrap (y.toNat : Int) = (y.toNat : Int) := IntWalk.i64_in _ (by have := HN.out; omega)
            have hlk := (HW.out.below B).look (a := (y.toNat : Int)) ⟨by omega, by have := HN.out; omega⟩
            obtain ⟨ob, hob⟩ : ∃ ob, ob = decide (IsObj O y.toNat) := ⟨_, rfl⟩
            rw [← hob] at hlk
            cases ob
            · have hc0 := hfall (by rw [hgk]; exact hk3) (fun h => h.elim hy0 (of_decide_eq_false hob.symm))
              subst hc0
              clear hstep hfall hgy hgk hy0 hy hkd hk3 hob iy
              go_wp2
              go_ret
              exact ⟨rfl, B⟩
            · have HZ := hstep (fun _ => .inr (of_decide_eq_true hob.symm))
              clear hstep hfall hgy hgk hy0 hy hkd hk3 hob iy
              go_wp2
              go_roundg (n - (j + 1))
              case measure => omega
              case rel => exact ⟨j + 1, by omega, rfl, by go_num, rfl, HZ⟩
          · have h1 : (N : Int) ≤ (y.toNat : Int) := by omega
            have h2 : decide ((N : Int) ≤ (y.toNat : Int)) = true := decide_eq_true h1
            have h3 : decide (N ≤ y.toNat) = true := decide_eq_true (by omega)
            have hc0 := hfall (by rw [hgk]; exact hk3) (fun h => h.elim hy0 (fun ⟨b', hb', e⟩ => by have := HO.out b' hb'; rw [← HNN.out] at this; omega))
            subst hc0
            clear hstep hfall hgy hgk hy0 hy hkd hk3 iy
            go_wp2
            go_ret
            exact ⟨rfl, B⟩
      · have hkn : ((kd.toNat : Int) == 3) = false := by rw [beq_eq_false_iff_ne]; omega
        have HZ := hstep (fun h3 => absurd (by rw [← hgk]; exact h3) hk3)
        clear hstep hfall hgy hgk hy hkd hk3 iy
        go_wp2
        go_roundg (n - (j + 1))
        case measure => omega
        case rel => exact ⟨j + 1, by omega, rfl, by go_num, rfl, HZ⟩
    · obtain rfl : j = n := by omega
      have hc1 : c = true := by rw [HC.out.1, decide_eq_true_iff]; intro i hi h2; rw [HC.out.2]; exact hz.out i hi h2
      subst hc1
      go_wp2
      go_ret
      exact ⟨rfl, B⟩
end Go.Proofs.Ytbfmdbeeiicabaa
namespace Go.Proofs.Ytbfmdbeeiicabaa
open Go.RowKit L02 L05 L06
def supV (W T : Int) : Value := .agg #[.int .i64 W, .int .i64 T]
def arr8 (l : List UInt64) : Value := .agg (l.map u64).toArray
set_option maxHeartbeats 1000000 in
theorem words_any (W T : Int) (w : World) (h : SupOk W T) : Calls Try.prog 113 #[supV W T] w fun e w' => e = .returned (arr8 (wordsOf W T)) ∧ Below w.heap.size w w' := by
  have h1 := h.1.1; have h2 := h.1.2.1; have h3 := h.2.1; have h4 := h.2.2
  have hu1 := u_nat (n := W) (by omega) (by omega)
  have hu2 := u_nat (n := T) (by omega) (by omega)
  have HU1 := Lib.hid hu1; have HU2 := Lib.hid hu2; clear hu1 hu2 h
  unfold supV
  go_enter Try.func113, Try.ntmps113
  go_wp2_with fail
  have hW : (((w.alloc (.cells #[.int .i64 W, .int .i64 T] 60)).alloc (.cells #[.int .u64 0, .int .u64 0, .int .u64 0, .int .u64 0, .int .u64 0, .int .u64 0, .int .u64 0, .int .u64 0] 169)).alloc
    (.cells #[.int .u64 32777959566500194, .int .u64 1, .int .u64 W, .int .u64 T, .int .u64 0, .int .u64 0, .int .u64 0, .int .u64 0] 169)).heap.size = w.heap.size + 1 + 1 + 1 := by simp
  have g2 := blk_new ((w.alloc (.cells #[.int .i64 W, .int .i64 T] 60)).alloc (.cells #[.int .u64 0, .int .u64 0, .int .u64 0, .int .u64 0, .int .u64 0, .int .u64 0, .int .u64 0, .int .u64 0] 169))
    (.cells #[.int .u64 32777959566500194, .int .u64 1, .int .u64 W, .int .u64 T, .int .u64 0, .int .u64 0, .int .u64 0, .int .u64 0] 169)
  have g1 := blk_old (blk_new (w.alloc (.cells #[.int .i64 W, .int .i64 T] 60)) (.cells #[.int .u64 0, .int .u64 0, .int .u64 0, .int .u64 0, .int .u64 0, .int .u64 0, .int .u64 0, .int .u64 0] 169))
    (.cells #[.int .u64 32777959566500194, .int .u64 1, .int .u64 W, .int .u64 T, .int .u64 0, .int .u64 0, .int .u64 0, .int .u64 0] 169)
  rw [show ((w.alloc (.cells #[.int .i64 W, .int .i64 T] 60)).alloc (.cells #[.int .u64 0, .int .u64 0, .int .u64 0, .int .u64 0, .int .u64 0, .int .u64 0, .int .u64 0, .int .u64 0] 169)).heap.size = w.heap.size + 1 + 1 by simp] at g2
  rw [show (w.alloc (.cells #[.int .i64 W, .int .i64 T] 60)).heap.size = w.heap.size + 1 by simp] at g1
  have B : Below w.heap.size w _ := (((Below.refl _ w).alloc (Nat.le_refl _) (.cells #[.int .i64 W, .int .i64 T] 60)).alloc (by simp) (.cells #[.int .u64 0, .int .u64 0, .int .u64 0, .int .u64 0, .int .u64 0, .int .u64 0, .int .u64 0, .int .u64 0] 169)).alloc (by simp; omega)
    (.cells #[.int .u64 32777959566500194, .int .u64 1, .int .u64 W, .int .u64 T, .int .u64 0, .int .u64 0, .int .u64 0, .int .u64 0] 169)
  have r := part_words (n := 7) (c := 8) (body W T) g2 rfl rfl (by simp [body, u64, HU1.out, HU2.out, magic]) (by simp)
  refine (Of_any _ _ _ r (by simp [body])).mono ?_
  rintro e w2 ⟨rfl, b⟩
  have g1' := blk_below g1 b; have g2' := blk_below g2 b
  replace B := B.trans (b.mono B.size)
  have hz := b.size
  rw [hW] at hz
  clear r b g1 g2 hW
  obtain ⟨S, hS⟩ : ∃ S, S = sum (body W T) := ⟨_, rfl⟩
  rw [← hS]
  have HS := Lib.hid hS; clear hS
  have c1 := blk_cell g1'; have c2 := blk_cell g2'; have f1 := blk_free g1'; have f2 := blk_free g2'
  have HB := Lib.hid B
  clear B g1' g2'
  go_wp2
  refine bodyPost_ret (v := arr8 (wordsOf W T)) ?_ rfl ⟨rfl, ?_⟩
  · simp [results, Try.results113, go_sem, c1, f1]
    simp [arr8, wordsOf, body, u64, HU1.out, HU2.out, magic, HS.out]
  · iterate 9 refine Below.setCell ?_ (by simp <;> omega) _
    exact HB.out
end Go.Proofs.Ytbfmdbeeiicabaa
namespace Go.Proofs.Ytbfmdbeeiicabaa
open Go.RowKit L02 L05 L06
set_option maxHeartbeats 1000000 in
theorem Read6_bad (v : Value) (l : List UInt64) (w : World) (h : Words w v l) (hl : l.length ≠ 8) :
    Calls Try.prog 75 #[v] w fun e w' => e = .returned (.tuple #[supV 0 0, .int .i64 2]) ∧ Below w.heap.size w w' := by
  have l1 := Rd.len h Try.underlying22
  have hne : ((l.length : Int) != 8) = true := by simp; omega
  clear h hl
  go_enter Try.func75, Try.ntmps75
  go_wp2
  go_step3
  go_wp2
  try rw [Exit.noGoto_ret]
  refine bodyPost_ret (v := .tuple #[supV 0 0, .int .i64 2]) ?_ rfl ⟨rfl, ?_⟩
  · simp [results, Try.results75, go_sem, supV]
  · exact (Below.refl _ _).alloc (Nat.le_refl _) _
set_option maxHeartbeats 1000000 in
theorem Read6_eight (v : Value) (l : List UInt64) (w : World) (h : Words w v l) (hl : l.length = 8) :
    Calls Try.prog 75 #[v] w fun e w' => e = .returned (.tuple #[supV (rdW l) (rdT l), .int .i64 (if ReadOk l then 0 else 50)]) ∧ Below w.heap.size w w' := by
  match l, hl with
  | [x0, x1, x2, x3, x4, x5, x6, x7], _ =>
  obtain ⟨b, o, c, rfl, hb, hc, hcell⟩ := Rd.form h (by simp)
  have c0 := hcell 0 (.int .u64 x0.toNat) rfl
  have c1 := hcell 1 (.int .u64 x1.toNat) rfl
  have c2 := hcell 2 (.int .u64 x2.toNat) rfl
  have c3 := hcell 3 (.int .u64 x3.toNat) rfl
  have c4 := hcell 4 (.int .u64 x4.toNat) rfl
  have c5 := hcell 5 (.int .u64 x5.toNat) rfl
  have c6 := hcell 6 (.int .u64 x6.toNat) rfl
  have c7 := hcell 7 (.int .u64 x7.toNat) rfl
  simp only [Nat.add_zero] at c0
  clear h hcell
  go_enter Try.func75, Try.ntmps75
  go_wp2
  have ha : ∀ W, (Instr.arrayAt 169 (.slice (some ⟨b, o, none⟩) 8 c)).run Try.prog W = .ok (.pointer (some ⟨b, o, none⟩)) W := fun W => by simp [Instr.arrayAt, run_underlying Try.underlying169]
  go_step3
  go_wp2
  go_step3
  go_wp2
  obtain ⟨A, hA⟩ : ∃ A, A = (x2.toNat : Int) := ⟨_, rfl⟩
  obtain ⟨T, hT⟩ : ∃ T, T = (x3.toNat : Int) := ⟨_, rfl⟩
  have hA0 : 0 ≤ A := by omega
  have hT0 : 0 ≤ T := by omega
  rw [← hA, ← hT]
  have HA := Lib.hid hA; have HT := Lib.hid hT
  clear hA hT c0 c1 c2 c3 c4 c5 c6 c7 ha
  go_loop [6] (fun n => ∃ k : Int, 256 ≤ k ∧ k ≤ 2056 ∧ k % 8 = 0 ∧ n = .int .i64 k ∧ ¬ (256 ≤ A ∧ A < k ∧ A % 8 = 0 ∧ T ≤ 8)) (fun n => (2056 - intOf n).toNat)
  case atStart => exact ⟨256, by omega, by omega, by omega, rfl, by omega⟩
  case round =>
    obtain ⟨n, n1, n2, n3, rfl, n4⟩ := hrel
    have N3 := Lib.hid n3; have N4 := Lib.hid n4; clear n3 n4
    by_cases hlt : n ≤ 2048
    · by_cases hnA : n = A
      · subst hnA
        go_wp2
        go_loop [19] (fun t => ∃ j : Int, 0 ≤ j ∧ j ≤ 9 ∧ t = .int .i64 j ∧ ¬ T < j) (fun t => (9 - intOf t).toNat)
        case atStart => exact ⟨0, by omega, by omega, rfl, by omega⟩
        case round =>
          obtain ⟨t, t1, t2, rfl, t3⟩ := hrel
          by_cases htl : t < 9
          · by_cases htT : t = T
            · subst htT
              go_wp2
              refine wp_gen (fun W => W.heap[w.heap.size]? = some (.cells #[.int .i64 0, .int .i64 0] 60 (0, 0)) ∧ W.heap[w.heap.size + 1]? = some (.cells #[.int .i64 n, .int .i64 t] 60 (0, 0)) ∧
                W.heap[w.heap.size + 1 + 1]? = some (.cells #[.int .u64 x0.toNat, .int .u64 x1.toNat, .int .u64 n, .int .u64 t, .int .u64 x4.toNat, .int .u64 x5.toNat, .int .u64 x6.toNat, .int .u64 x7.toNat] 169 (0, 0)) ∧ Below w.heap.size w W ∧ w.heap.size + 3 ≤ W.heap.size)
                ⟨by simp only [alloc_heap, Array.getElem?_push, Array.size_push]; simp <;> omega, by simp only [alloc_heap, Array.getElem?_push, Array.size_push]; simp <;> omega, by simp only [alloc_heap, Array.getElem?_push, Array.size_push]; simp <;> omega, (((Below.refl _ w).alloc (Nat.le_refl _) _).alloc (by simp) _).alloc (by simp; omega) _, by simp⟩ ?_
              rintro w1 ⟨g0, g1, g2, B, hz⟩
              have c0 := blk_cell g0; have c1 := blk_cell g1; have c2 := blk_cell g2; have f0 := blk_free g0
              have HB := Lib.hid B; clear B
              have s0 : w1.cell? ⟨w.heap.size + 1, 0, none⟩ = some (.int .i64 n) := c1 0
              have s1 : w1.cell? ⟨w.heap.size + 1, 1, none⟩ = some (.int .i64 t) := c1 1
              have a0 : w1.cell? ⟨w.heap.size + 1 + 1, 0, none⟩ = some (.int .u64 x0.toNat) := c2 0
              have a1 : w1.cell? ⟨w.heap.size + 1 + 1, 1, none⟩ = some (.int .u64 x1.toNat) := c2 1
              have a2 : w1.cell? ⟨w.heap.size + 1 + 1, 2, none⟩ = some (.int .u64 n) := c2 2
              have a3 : w1.cell? ⟨w.heap.size + 1 + 1, 3, none⟩ = some (.int .u64 t) := c2 3
              have a4 : w1.cell? ⟨w.heap.size + 1 + 1, 4, none⟩ = some (.int .u64 x4.toNat) := c2 4
              have a5 : w1.cell? ⟨w.heap.size + 1 + 1, 5, none⟩ = some (.int .u64 x5.toNat) := c2 5
              have a6 : w1.cell? ⟨w.heap.size + 1 + 1, 6, none⟩ = some (.int .u64 x6.toNat) := c2 6
              have a7 : w1.cell? ⟨w.heap.size + 1 + 1, 7, none⟩ = some (.int .u64 x7.toNat) := c2 7
              have G0 := Lib.hid g0; have G1 := Lib.hid g1; have G2 := Lib.hid g2; have HT0 := Lib.hid t3
              have hok : SupOk n t := ⟨⟨n1, hlt, N3.out⟩, t1, by omega⟩
              have HOK := Lib.hid hok
              have hcmp := fun W => run_neq_words (P := Try.prog) (n := 8) Try.underlying169 (by kernel_rfl) Try.underlying34 (by kernel_rfl) (fun X j u W h => run_part_plain W (by kernel_rfl) h) (wordsOf n t) [x0, x1, x2, x3, x4, x5, x6, x7] rfl rfl W
              have e1 : (List.map u64 [x0, x1, x2, x3, x4, x5, x6, x7]).toArray = #[.int .u64 x0.toNat, .int .u64 x1.toNat, .int .u64 n, .int .u64 t, .int .u64 x4.toNat, .int .u64 x5.toNat, .int .u64 x6.toNat, .int .u64 x7.toNat] := by rw [HA.out, HT.out]; rfl
              rw [e1] at hcmp
              obtain ⟨V, hV⟩ : ∃ V, V = (List.map u64 (wordsOf n t)).toArray := ⟨_, rfl⟩
              rw [← hV] at hcmp
              have HV := Lib.hid hV
              have hz0 : (n == 0) = false := by rw [beq_eq_false_iff_ne]; omega
              have heql : ∀ W, (binOp .eql 60 (.agg #[.int .i64 n, .int .i64 t]) (.agg #[.int .i64 0, .int .i64 0])).run Try.prog W = .ok (.bool false) W := by
                intro W
                simp [go_sem, hz0]
              clear g0 g1 g2 c1 c2 t3 hok e1 hV hz0
              obtain ⟨dB, hdB⟩ : ∃ dB, dB = decide (wordsOf n t = [x0, x1, x2, x3, x4, x5, x6, x7]) := ⟨_, rfl⟩
              rw [← hdB] at hcmp
              have HDB := Lib.hid hdB; clear hdB
              have hat : at2 [x0, x1, x2, x3, x4, x5, x6, x7] = n ∧ at3 [x0, x1, x2, x3, x4, x5, x6, x7] = t := ⟨HA.out.symm, HT.out.symm⟩
              have HAT := Lib.hid hat; clear hat
              have k3 : ∀ (W : World), Below w1.heap.size w1 W → W.heap[w.heap.size]? = some (.cells #[.int .i64 0, .int .i64 0] 60 (0, 0)) := fun W b => blk_below G0.out b
              have K3 := Lib.hid k3; clear k3
              cases dB
              all_goals
                go_region_held3 (fun w' => w'.cell? ⟨w.heap.size + 1, 0, none⟩ = some (.int .i64 n) ∧ w'.cell? ⟨w.heap.size + 1, 1, none⟩ = some (.int .i64 t) ∧ w'.cell? ⟨w.heap.size + 1 + 1, 0, none⟩ = some (.int .u64 x0.toNat) ∧ w'.cell? ⟨w.heap.size + 1 + 1, 1, none⟩ = some (.int .u64 x1.toNat) ∧ w'.cell? ⟨w.heap.size + 1 + 1, 2, none⟩ = some (.int .u64 n) ∧ w'.cell? ⟨w.heap.size + 1 + 1, 3, none⟩ = some (.int .u64 t) ∧ w'.cell? ⟨w.heap.size + 1 + 1, 4, none⟩ = some (.int .u64 x4.toNat) ∧ w'.cell? ⟨w.heap.size + 1 + 1, 5, none⟩ = some (.int .u64 x5.toNat) ∧ w'.cell? ⟨w.heap.size + 1 + 1, 6, none⟩ = some (.int .u64 x6.toNat) ∧ w'.cell? ⟨w.heap.size + 1 + 1, 7, none⟩ = some (.int .u64 x7.toNat))
                  (first | exact ⟨s0, s1, a0, a1, a2, a3, a4, a5, a6, a7⟩ | exact ⟨(k2 _ _ (by omega)).trans s0, (k2 _ _ (by omega)).trans s1, (k2 _ _ (by omega)).trans a0, (k2 _ _ (by omega)).trans a1, (k2 _ _ (by omega)).trans a2, (k2 _ _ (by omega)).trans a3, (k2 _ _ (by omega)).trans a4, (k2 _ _ (by omega)).trans a5, (k2 _ _ (by omega)).trans a6, (k2 _ _ (by omega)).trans a7⟩)
                  (first | (go_at_call 113; refine (words_any n t _ HOK.out).mono ?_; rw [show arr8 (wordsOf n t) = .agg V by rw [HV.out]; rfl]; rintro e w2 ⟨rfl, b2⟩; have k2 : ∀ (g q : Nat), g < w1.heap.size → w2.cell? ⟨g, q, none⟩ = w1.cell? ⟨g, q, none⟩ := fun g q hg => b2.cell (p := ⟨g, q, none⟩) hg))
                have b3 := (below_drewN (Below.refl w1.heap.size w1) 1).trans b2
                have z0 := blk_cell (K3.out _ b3); have zf := blk_free (K3.out _ b3); have z1 := blk_cell (blk_below G1.out b3)
                have HB2 := Lib.hid b3
                clear k2 b2 b3
                go_wp2
                try rw [Exit.noGoto_ret]
              · have hno : ¬ ReadOk [x0, x1, x2, x3, x4, x5, x6, x7] := by
                  rintro ⟨_, h2⟩
                  rw [HAT.out.1, HAT.out.2] at h2
                  exact absurd h2.symm (of_decide_eq_false HDB.out.symm)
                refine bodyPost_ret (v := .tuple #[supV 0 0, .int .i64 50]) ?_ rfl ⟨?_, ?_⟩
                · simp [results, Try.results75, go_sem, supV, z0, zf]
                · rw [if_neg hno, (rd_no hno).1, (rd_no hno).2]
                · exact ((HB.out.trans (HB2.out.mono HB.out.size)).setCell (Nat.le_refl _) _).setCell (Nat.le_refl _) _
              · have hyes : ReadOk [x0, x1, x2, x3, x4, x5, x6, x7] := by
                  unfold ReadOk
                  rw [HAT.out.1, HAT.out.2]
                  exact ⟨HOK.out, (of_decide_eq_true HDB.out.symm).symm⟩
                refine bodyPost_ret (v := .tuple #[supV n t, .int .i64 0]) ?_ rfl ⟨?_, ?_⟩
                · simp [results, Try.results75, go_sem, supV, z0, zf]
                · rw [if_pos hyes, rdW, if_pos hyes, rdT, if_pos hyes, HAT.out.1, HAT.out.2]
                · exact ((HB.out.trans (HB2.out.mono HB.out.size)).setCell (Nat.le_refl _) _).setCell (Nat.le_refl _) _
            · have hne : (t == T) = false := by rw [beq_eq_false_iff_ne]; exact htT
              go_wp2
              go_round
              case rel => exact ⟨t + 1, by omega, by omega, rfl, by omega⟩
              case measure => simp [intOf]; omega
          · go_wp2
            go_round
            case rel => exact ⟨n + 8, by omega, by omega, by have := N3.out; omega, rfl, by omega⟩
            case measure => simp [intOf]; omega
      · have hne : (n == A) = false := by rw [beq_eq_false_iff_ne]; exact hnA
        go_wp2
        go_loop [19] (fun t => ∃ j : Int, 0 ≤ j ∧ j ≤ 9 ∧ t = .int .i64 j) (fun t => (9 - intOf t).toNat)
        case atStart => exact ⟨0, by omega, by omega, rfl⟩
        case round =>
          obtain ⟨t, t1, t2, rfl⟩ := hrel
          by_cases htl : t < 9
          · go_wp2
            go_round
            case rel => exact ⟨t + 1, by omega, by omega, rfl⟩
            case measure => simp [intOf]; omega
          · go_wp2
            go_round
            case rel => exact ⟨n + 8, by omega, by omega, by have := N3.out; omega, rfl, by have := N3.out; have := N4.out; omega⟩
            case measure => simp [intOf]; omega
    · go_wp2
      refine wp_gen (fun W => W.heap[w.heap.size]? = some (.cells #[.int .i64 0, .int .i64 0] 60 (0, 0)) ∧ W.heap[w.heap.size + 1]? = some (.cells #[.int .i64 0, .int .i64 0] 60 (0, 0)) ∧
        W.heap[w.heap.size + 1 + 1]? = some (.cells #[.int .u64 x0.toNat, .int .u64 x1.toNat, .int .u64 A, .int .u64 T, .int .u64 x4.toNat, .int .u64 x5.toNat, .int .u64 x6.toNat, .int .u64 x7.toNat] 169 (0, 0)) ∧ Below w.heap.size w W ∧ w.heap.size + 3 ≤ W.heap.size)
        ⟨by simp only [alloc_heap, Array.getElem?_push, Array.size_push]; simp <;> omega, by simp only [alloc_heap, Array.getElem?_push, Array.size_push]; simp <;> omega, by simp only [alloc_heap, Array.getElem?_push, Array.size_push]; simp <;> omega, (((Below.refl _ w).alloc (Nat.le_refl _) _).alloc (by simp) _).alloc (by simp; omega) _, by simp⟩ ?_
      rintro w1 ⟨g0, g1, g2, B, hz⟩
      have c0 := blk_cell g0; have c1 := blk_cell g1; have c2 := blk_cell g2; have f0 := blk_free g0
      have HB := Lib.hid B; clear B
      have G0 := Lib.hid g0; clear g0 g1 g2
      go_big_quiet (fail)
      go_wp2
      try rw [Exit.noGoto_ret]
      have hno : ¬ ReadOk [x0, x1, x2, x3, x4, x5, x6, x7] := by
        rintro ⟨⟨⟨h1, h2, h3⟩, h4, h5⟩, _⟩
        have h6 : at2 [x0, x1, x2, x3, x4, x5, x6, x7] = A := HA.out.symm
        have h7 : at3 [x0, x1, x2, x3, x4, x5, x6, x7] = T := HT.out.symm
        rw [h6] at h1 h2 h3
        rw [h7] at h4 h5
        exact N4.out ⟨h1, by omega, h3, h5⟩
      refine bodyPost_ret (v := .tuple #[supV 0 0, .int .i64 50]) ?_ rfl ⟨?_, ?_⟩
      · simp [results, Try.results75, go_sem, supV, c0, f0]
      · rw [if_neg hno, (rd_no hno).1, (rd_no hno).2]
      · exact ((below_drewN HB.out _).setCell (Nat.le_refl _) _).setCell (Nat.le_refl _) _
theorem Read6_any (v : Value) (l : List UInt64) (w : World) (h : Words w v l) :
    Calls Try.prog 75 #[v] w fun e w' => e = .returned (.tuple #[supV (rdW l) (rdT l), .int .i64 (rdErr l)]) ∧ Below w.heap.size w w' := by
  by_cases hl : l.length = 8
  · rw [rdErr, if_pos hl]; exact Read6_eight v l w h hl
  · have hno : ¬ ReadOk l := fun hr => hl (readOk_len hr)
    rw [rdErr, if_neg hl, (rd_no hno).1, (rd_no hno).2]; exact Read6_bad v l w h hl
end Go.Proofs.Ytbfmdbeeiicabaa
namespace Go.Proofs.Ytbfmdbeeiicabaa
open Go.RowKit L02 L05 L06
end Go.Proofs.Ytbfmdbeeiicabaa
