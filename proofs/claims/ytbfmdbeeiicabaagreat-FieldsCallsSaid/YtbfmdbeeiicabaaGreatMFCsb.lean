/- Contracts of the functions that the law 'FieldsCalls' reaches, part 2. No condition. -/
import Derived.Test.YtbfmdbeeiicabaaGreatMFCsa
set_option linter.unusedVariables false
set_option linter.unusedSimpArgs false
namespace Go.Proofs.YtbfmdbeeiicabaaGreat
open Go Go.RowKit
section
variable {P : Program} {ops : Array Oper} {rest : List Oper} {o : Oper} {a : Act} {Q : Act → Prop} {F : (Nat → Bool) → World → Prop} {js : List Nat} {k : Nat} {md : Region.Mode}
end
/-- one of five worlds, by which of four operations are done, one behind the other -/
def FCh (k1 k2 k3 k4 : Nat) (W0 W1 W2 W3 W4 : World) : (Nat → Bool) → World → Prop := fun f W =>
  (f k2 = true → f k1 = true) ∧ (f k3 = true → f k2 = true) ∧ (f k4 = true → f k3 = true) ∧ W = (if f k4 = true then W4 else if f k3 = true then W3 else if f k2 = true then W2 else if f k1 = true then W1 else W0)
section
variable {k1 k2 k3 k4 : Nat} {W0 W1 W2 W3 W4 : World}
theorem FCh.dep : Dep (FCh k1 k2 k3 k4 W0 W1 W2 W3 W4) [k1, k2, k3, k4] := by
  rintro f g W hfg ⟨h1, h2, h3, h4⟩
  have e1 := hfg k1 (by simp); have e2 := hfg k2 (by simp); have e3 := hfg k3 (by simp); have e4 := hfg k4 (by simp)
  rw [e1, e2] at h1; rw [e2, e3] at h2; rw [e3, e4] at h3; rw [e1, e2, e3, e4] at h4
  exact ⟨h1, h2, h3, h4⟩
theorem FCh.start : FCh k1 k2 k3 k4 W0 W1 W2 W3 W4 (fun _ => false) W0 := ⟨by simp, by simp, by simp, by simp⟩
theorem FCh.done {W : World} (h : FCh k1 k2 k3 k4 W0 W1 W2 W3 W4 (fun _ => true) W) : W = W4 := by have := h.2.2.2; simpa using this
theorem no_of {b c : Bool} (h : b = true → c = true) (hc : c = false) : b = false := by cases b; rfl; rw [h rfl] at hc; cases hc
theorem FCh.s1 (hk : k1 ≠ k2 ∧ k1 ≠ k3 ∧ k1 ≠ k4) {f : Nat → Bool} {W : World} (h : FCh k1 k2 k3 k4 W0 W1 W2 W3 W4 f W) (h0 : f k1 = false) : W = W0 ∧ FCh k1 k2 k3 k4 W0 W1 W2 W3 W4 (fun i => i == k1 || f i) W1 := by
  obtain ⟨a1, a2, a3, a4⟩ := h
  have b2 := no_of a1 h0; have b3 := no_of a2 b2; have b4 := no_of a3 b3
  refine ⟨by rw [a4]; simp [h0, b2, b3, b4], by simp, ?_, ?_, ?_⟩
  · simp only [b3, Bool.or_false]; intro h; rw [beq_iff_eq] at h; exact absurd h.symm hk.2.1
  · simp only [b4, Bool.or_false]; intro h; rw [beq_iff_eq] at h; exact absurd h.symm hk.2.2
  · have e2 : (k2 == k1) = false := by rw [beq_eq_false_iff_ne]; exact hk.1.symm
    have e3 : (k3 == k1) = false := by rw [beq_eq_false_iff_ne]; exact hk.2.1.symm
    have e4 : (k4 == k1) = false := by rw [beq_eq_false_iff_ne]; exact hk.2.2.symm
    simp [b2, b3, b4, e2, e3, e4]
theorem FCh.s2 (hk : k2 ≠ k1 ∧ k2 ≠ k3 ∧ k2 ≠ k4) {f : Nat → Bool} {W : World} (h : FCh k1 k2 k3 k4 W0 W1 W2 W3 W4 f W) (h0 : f k2 = false) (h1 : f k1 = true) : W = W1 ∧ FCh k1 k2 k3 k4 W0 W1 W2 W3 W4 (fun i => i == k2 || f i) W2 := by
  obtain ⟨a1, a2, a3, a4⟩ := h
  have b3 := no_of a2 h0; have b4 := no_of a3 b3
  have e1 : (k1 == k2) = false := by rw [beq_eq_false_iff_ne]; exact hk.1.symm
  have e3 : (k3 == k2) = false := by rw [beq_eq_false_iff_ne]; exact hk.2.1.symm
  have e4 : (k4 == k2) = false := by rw [beq_eq_false_iff_ne]; exact hk.2.2.symm
  exact ⟨by rw [a4]; simp [h0, h1, b3, b4], by simp [h1], by simp, by simp [b4, e4], by simp [b3, b4, e3, e4]⟩
theorem FCh.s3 (hk : k3 ≠ k1 ∧ k3 ≠ k2 ∧ k3 ≠ k4) {f : Nat → Bool} {W : World} (h : FCh k1 k2 k3 k4 W0 W1 W2 W3 W4 f W) (h0 : f k3 = false) (h1 : f k2 = true) : W = W2 ∧ FCh k1 k2 k3 k4 W0 W1 W2 W3 W4 (fun i => i == k3 || f i) W3 := by
  obtain ⟨a1, a2, a3, a4⟩ := h
  have b4 := no_of a3 h0
  have e4 : (k4 == k3) = false := by rw [beq_eq_false_iff_ne]; exact hk.2.2.symm
  exact ⟨by rw [a4]; simp [h0, h1, b4], by simp [a1 h1], by simp [h1], by simp, by simp [b4, e4]⟩
theorem FCh.s4 (hk : k4 ≠ k1 ∧ k4 ≠ k2 ∧ k4 ≠ k3) {f : Nat → Bool} {W : World} (h : FCh k1 k2 k3 k4 W0 W1 W2 W3 W4 f W) (h0 : f k4 = false) (h1 : f k3 = true) : W = W3 ∧ FCh k1 k2 k3 k4 W0 W1 W2 W3 W4 (fun i => i == k4 || f i) W4 := by
  obtain ⟨a1, a2, a3, a4⟩ := h
  exact ⟨by rw [a4]; simp [h0, h1], by simp [a1 (a2 h1)], by simp [a2 h1], by simp [h1], by simp⟩
end
/-- one of four worlds, by which of three operations are done, one behind the other -/
def FC3 (k1 k2 k3 : Nat) (W0 W1 W2 W3 : World) : (Nat → Bool) → World → Prop := fun f W =>
  (f k2 = true → f k1 = true) ∧ (f k3 = true → f k2 = true) ∧ W = (if f k3 = true then W3 else if f k2 = true then W2 else if f k1 = true then W1 else W0)
section
variable {k1 k2 k3 : Nat} {W0 W1 W2 W3 : World}
theorem FC3.dep : Dep (FC3 k1 k2 k3 W0 W1 W2 W3) [k1, k2, k3] := by
  rintro f g W hfg ⟨h1, h2, h4⟩
  have e1 := hfg k1 (by simp); have e2 := hfg k2 (by simp); have e3 := hfg k3 (by simp)
  rw [e1, e2] at h1; rw [e2, e3] at h2; rw [e1, e2, e3] at h4
  exact ⟨h1, h2, h4⟩
theorem FC3.start : FC3 k1 k2 k3 W0 W1 W2 W3 (fun _ => false) W0 := ⟨by simp, by simp, by simp⟩
theorem FC3.done {W : World} (h : FC3 k1 k2 k3 W0 W1 W2 W3 (fun _ => true) W) : W = W3 := by have := h.2.2; simpa using this
theorem FC3.s1 (hk : k1 ≠ k2 ∧ k1 ≠ k3) {f : Nat → Bool} {W : World} (h : FC3 k1 k2 k3 W0 W1 W2 W3 f W) (h0 : f k1 = false) : W = W0 ∧ FC3 k1 k2 k3 W0 W1 W2 W3 (fun i => i == k1 || f i) W1 := by
  obtain ⟨a1, a2, a4⟩ := h
  have b2 := no_of a1 h0; have b3 := no_of a2 b2
  have e2 : (k2 == k1) = false := by rw [beq_eq_false_iff_ne]; exact hk.1.symm
  have e3 : (k3 == k1) = false := by rw [beq_eq_false_iff_ne]; exact hk.2.symm
  exact ⟨by rw [a4]; simp [h0, b2, b3], by simp, by simp [b3, e3], by simp [b2, b3, e2, e3]⟩
theorem FC3.s2 (hk : k2 ≠ k1 ∧ k2 ≠ k3) {f : Nat → Bool} {W : World} (h : FC3 k1 k2 k3 W0 W1 W2 W3 f W) (h0 : f k2 = false) (h1 : f k1 = true) : W = W1 ∧ FC3 k1 k2 k3 W0 W1 W2 W3 (fun i => i == k2 || f i) W2 := by
  obtain ⟨a1, a2, a4⟩ := h
  have b3 := no_of a2 h0
  have e3 : (k3 == k2) = false := by rw [beq_eq_false_iff_ne]; exact hk.2.symm
  exact ⟨by rw [a4]; simp [h0, h1, b3], by simp [h1], by simp, by simp [b3, e3]⟩
theorem FC3.s3 (hk : k3 ≠ k1 ∧ k3 ≠ k2) {f : Nat → Bool} {W : World} (h : FC3 k1 k2 k3 W0 W1 W2 W3 f W) (h0 : f k3 = false) (h1 : f k2 = true) : W = W2 ∧ FC3 k1 k2 k3 W0 W1 W2 W3 (fun i => i == k3 || f i) W3 := by
  obtain ⟨a1, a2, a4⟩ := h
  exact ⟨by rw [a4]; simp [h0, h1], by simp [a1 h1], by simp [h1], by simp⟩
end
end Go.Proofs.YtbfmdbeeiicabaaGreat
namespace Go.Proofs.YtbfmdbeeiicabaaGreat
open Go Go.RowKit
/-- the first d of the operations ks are done, the world is Ws d; the read r comes before the operation number m. -/
def FL (ks : List Nat) (Ws : Nat → World) (r m : Nat) : (Nat → Bool) → World → Prop := fun f W =>
  ∃ d, d ≤ ks.length ∧ (∀ i k, ks[i]? = some k → f k = decide (i < d)) ∧ W = Ws d ∧ (m < d → f r = true)
section
variable {ks : List Nat} {Ws : Nat → World} {r m : Nat}
theorem FL.dep : Dep (FL ks Ws r m) (r :: ks) := by
  rintro f g W hfg ⟨d, h1, h2, h3, h4⟩
  refine ⟨d, h1, fun i k hk => ?_, h3, fun hm => ?_⟩
  · rw [← hfg k (List.mem_cons_of_mem _ (List.mem_of_getElem? hk))]; exact h2 i k hk
  · rw [← hfg r List.mem_cons_self]; exact h4 hm
theorem FL.start : FL ks Ws r m (fun _ => false) (Ws 0) := ⟨0, Nat.zero_le _, fun i k _ => by simp, rfl, fun h => by omega⟩
theorem FL.done {W : World} (h : FL ks Ws r m (fun _ => true) W) : W = Ws ks.length := by
  obtain ⟨d, h1, h2, h3, h4⟩ := h
  rw [h3]
  congr 1
  by_cases hd : d = ks.length
  · exact hd
  · have hlt : d < ks.length := by omega
    have := h2 d ks[d] (List.getElem?_eq_getElem hlt)
    simp at this
theorem FL.step {i k : Nat} (hk : ks[i]? = some k) (hn : ks.Nodup) {f : Nat → Bool} {W : World} (h : FL ks Ws r m f W) (h0 : f k = false) (hp : ∀ p, i = p + 1 → ∀ k', ks[p]? = some k' → f k' = true) (hm : i = m → f r = true) :
    W = Ws i ∧ FL ks Ws r m (fun j => j == k || f j) (Ws (i + 1)) := by
  obtain ⟨d, h1, h2, h3, h4⟩ := h
  have hil : i < ks.length := (List.getElem?_eq_some_iff.1 hk).1
  have hd1 : ¬ i < d := by have := h2 i k hk; rw [h0] at this; simpa using this.symm
  have hd2 : i ≤ d := by
    rcases i with _ | p
    · omega
    · have hp' : ks[p]? = some ks[p] := List.getElem?_eq_getElem (by omega)
      have e1 := hp p rfl _ hp'
      rw [h2 p _ hp'] at e1
      have := of_decide_eq_true e1
      omega
  obtain rfl : d = i := by omega
  refine ⟨h3, d + 1, by omega, fun j k' hk' => ?_, rfl, fun hmd => ?_⟩
  · by_cases hj : j = d
    · subst hj
      rw [hk] at hk'; injection hk' with hk'; subst hk'
      simp
    · have hne : k' ≠ k := fun e => by
        subst e
        exact hj ((List.getElem?_inj (List.getElem?_eq_some_iff.1 hk').1 hn).1 (hk'.trans hk.symm))
      have e1 : (k' == k) = false := by rw [beq_eq_false_iff_ne]; exact hne
      simp only [e1, Bool.false_or]
      rw [h2 j k' hk']
      have : (j < d) = (j < d + 1) := by rw [eq_iff_iff]; omega
      simp only [this]
  · by_cases hmi : d = m
    · simp [hm hmi]
    · simp [h4 (by omega)]
theorem FL.prev {p q : Nat} {f : Nat → Bool} (hq : ks[p]? = some q) (h : f q = true) : ∀ p', p + 1 = p' + 1 → ∀ k', ks[p']? = some k' → f k' = true := by
  intro p' hp k' hk
  obtain rfl : p = p' := by omega
  rw [hq] at hk; injection hk with hk; subst hk; exact h
theorem FL.read (hr : r ∉ ks) {f : Nat → Bool} {W : World} (h : FL ks Ws r m f W) (h0 : f r = false) : (∃ d, d ≤ ks.length ∧ d ≤ m ∧ W = Ws d) ∧ FL ks Ws r m (fun j => j == r || f j) W := by
  obtain ⟨d, h1, h2, h3, h4⟩ := h
  have hdm : d ≤ m := by
    rcases Nat.lt_or_ge m d with h | h
    · rw [h4 h] at h0; cases h0
    · exact h
  refine ⟨⟨d, h1, hdm, h3⟩, d, h1, fun i k hk => ?_, h3, fun _ => by simp⟩
  have hne : (k == r) = false := by rw [beq_eq_false_iff_ne]; exact fun e => hr (e ▸ List.mem_of_getElem? hk)
  simp only [hne, Bool.false_or]
  exact h2 i k hk
theorem FL.all {p : World → Prop} (h : ∀ d, d ≤ ks.length → p (Ws d)) (x : FXN (FL ks Ws r m)) : p x.W := by
  obtain ⟨W, f, d, h1, _, h3, _⟩ := x
  subst h3; exact h d h1
end
section
variable {P : Program} {ops : Array Oper} {rest : List Oper} {o : Oper} {a : Act} {Q : Act → Prop} {F : (Nat → Bool) → World → Prop} {js : List Nat} {k : Nat} {md : Region.Mode}
/-- a store, where others that it waits for are done -/
theorem wpN_storeD (hD : Dep F js) (hi : ops[k]? = some o) (ty : TypeId) (px py : Operand) (ho : o.op = .store ty px py) (hw : Region.wanted o (yielded ops a.tmps) = true) {p u : Value} (hx : a.eval px = p) (hy : a.eval py = u) (dep : List Nat) (hd : (dep.all fun j => o.after.any fun e => Region.binds md e && e.on == j) = true)
    (hs : ∀ f W, F f W → f k = false → (∀ j ∈ dep, f j = true) → ∃ W', (Instr.storeAt ty p u).run P W = .ok () W' ∧ F (fun i => i == k || f i) W') (h : wpF P md ops (CN F) Q rest (k + 1) (a.put o.dst undef)) : wpF P md ops (CN F) Q (o :: rest) k a := by
  refine ⟨undef, .inl ⟨hw, fun listed W hl hW => ?_⟩, h⟩
  have hk : listed.getD k false = false := by
    have h1 := (mem_ready.1 hl).1
    rcases Nat.lt_or_ge k listed.size with h' | h'
    · simp [h'] at h1 ⊢; exact h1
    · simp [Array.getElem?_eq_none h'] at h1 
  obtain ⟨W', h1, h2⟩ := hs _ W hW hk (fun j hj => ready_after hi (List.all_eq_true.1 hd j hj) hl)
  unfold execOp
  simp only [ho, hx, hy, Sem.run_bind, h1, Result.andThen_ok, Sem.run_pure, uponF, true_and]
  refine hD _ _ _ (fun j hj => ?_) h2
  by_cases hjk : j = k
  · subst hjk
    rw [(getD_on (mem_ready.1 hl).1).2]; simp
  · have hne : k ≠ j := Ne.symm hjk
    rw [getD_set_ne false hne]; simp [hjk]
end
end Go.Proofs.YtbfmdbeeiicabaaGreat
namespace Go.Proofs.YtbfmdbeeiicabaaGreat.L15
open L02 L14
/-- the block that stands at an address -/
def stand (l : List UInt64) (k : Nat) : Hb := { split (l.getD k 0) with at_ := k, next := l.getD (k + 1) 0 }
def StOk (l : List UInt64) (k : Nat) : Prop := HdOk (l.getD k 0) ∧ (k : Int) + (split (l.getD k 0)).size ≤ l.length
instance (l : List UInt64) (k : Nat) : Decidable (StOk l k) := inferInstanceAs (Decidable (_ ∧ _))
def szN (l : List UInt64) (k : Nat) : Nat := (split (l.getD k 0)).size.toNat
/-- the blocks from an address on, in at most f steps -/
def fromF (l : List UInt64) : Nat → Nat → Option (List Hb)
  | 0, k => if k = l.length then some [] else none
  | f + 1, k => if k = l.length then some [] else if StOk l k then (fromF l f (k + szN l k)).map (stand l k :: ·) else none
def from_ (l : List UInt64) (k : Nat) : Option (List Hb) := fromF l (l.length - k) k
/-- two free extents side by side -/
def Adj : List Hb → Prop
  | a :: b :: L => (a.kind = 2 ∧ b.kind = 2) ∨ Adj (b :: L)
  | _ => False
instance adjDec : (L : List Hb) → Decidable (Adj L)
  | [] => inferInstanceAs (Decidable False)
  | [_] => inferInstanceAs (Decidable False)
  | a :: b :: L => by
    have := adjDec (b :: L)
    exact inferInstanceAs (Decidable ((a.kind = 2 ∧ b.kind = 2) ∨ Adj (b :: L)))
def parsed (l : List UInt64) : Option (List Hb) := match from_ l 128 with | some L => if Adj L then none else some L | none => none
def fromErr (l : List UInt64) (a : Int) : Int := if SizeOk l.length then (if 128 ≤ a ∧ a ≤ l.length ∧ a % 2 = 0 then (if (from_ l a.toNat).isSome then 0 else 50) else 2) else 8
def fromL (l : List UInt64) (a : Int) : List Hb := if fromErr l a = 0 then (from_ l a.toNat).getD [] else []
def allErr (l : List UInt64) : Int := if SizeOk l.length then (if (parsed l).isSome then 0 else 50) else 8
def allL (l : List UInt64) : List Hb := (if allErr l = 0 then (parsed l).getD [] else [])
/-- the block at an address -/
def findB (L : List Hb) (a : Int) : Option Hb := L.find? fun b => decide (b.at_ = a)
def findErr (l : List UInt64) (a : Int) : Int := if allErr l = 0 then (if (findB (allL l) a).isSome then 0 else 6) else allErr l
def find (l : List UInt64) (a : Int) : Hb := if findErr l a = 0 then (findB (allL l) a).getD .none else .none
theorem szN_ge {l : List UInt64} {k : Nat} (h : StOk l k) : 2 ≤ szN l k ∧ (szN l k : Int) = (split (l.getD k 0)).size ∧ szN l k % 2 = 0 ∧ k + szN l k ≤ l.length ∧ szN l k ≤ 1920 := by
  obtain ⟨h1, h2⟩ := h
  have := (split_ok h1).bounds
  unfold szN
  omega
theorem fromF_more {l : List UInt64} : ∀ (f k : Nat), l.length - k ≤ f → k ≤ l.length → fromF l f k = fromF l (l.length - k) k
  | 0, k, h, hk => by rw [show l.length - k = 0 by omega]
  | f + 1, k, h, hk => by
    by_cases hl : k = l.length
    · subst hl
      rw [Nat.sub_self, fromF, fromF, if_pos rfl, if_pos rfl]
    · obtain ⟨d, hd⟩ : ∃ d, l.length - k = d + 1 := ⟨l.length - k - 1, by omega⟩
      rw [hd, fromF, fromF, if_neg hl, if_neg hl]
      by_cases hs : StOk l k
      · rw [if_pos hs, if_pos hs]
        have hz := szN_ge hs
        rw [fromF_more f _ (by omega) hz.2.2.2.1, fromF_more d _ (by omega) hz.2.2.2.1]
      · rw [if_neg hs, if_neg hs]
termination_by f => f
theorem from_end {l : List UInt64} : from_ l l.length = some [] := by rw [from_, Nat.sub_self, fromF, if_pos rfl]
theorem from_no {l : List UInt64} {k : Nat} (hk : k < l.length) (h : ¬ StOk l k) : from_ l k = none := by
  obtain ⟨d, hd⟩ : ∃ d, l.length - k = d + 1 := ⟨l.length - k - 1, by omega⟩
  rw [from_, hd, fromF, if_neg (by omega), if_neg h]
theorem from_step {l : List UInt64} {k : Nat} (hk : k < l.length) (h : StOk l k) : from_ l k = (from_ l (k + szN l k)).map (stand l k :: ·) := by
  obtain ⟨d, hd⟩ : ∃ d, l.length - k = d + 1 := ⟨l.length - k - 1, by omega⟩
  have hz := szN_ge h
  rw [from_, hd, fromF, if_neg (by omega), if_pos h, fromF_more d _ (by omega) hz.2.2.2.1]; rfl
theorem from_past {l : List UInt64} {k : Nat} (hk : l.length < k) : from_ l k = none := by
  rw [from_, show l.length - k = 0 by omega, fromF, if_neg (by omega)]
/-- a chain of blocks: each one stands at the end of the one before -/
inductive Chain (l : List UInt64) : Nat → List Hb → Prop where
  | nil : Chain l l.length []
  | cons {k : Nat} {L : List Hb} : k < l.length → StOk l k → Chain l (k + szN l k) L → Chain l k (stand l k :: L)
theorem chain_of {l : List UInt64} : ∀ (n k : Nat) (L : List Hb), l.length - k ≤ n → from_ l k = some L → Chain l k L
  | n, k, L, hn, h => by
    by_cases hl : k = l.length
    · subst hl
      rw [from_end] at h; injection h with h; subst h; exact .nil
    · by_cases hk : k < l.length
      · by_cases hs : StOk l k
        · rw [from_step hk hs] at h
          have hz := szN_ge hs
          cases h2 : from_ l (k + szN l k) with
          | none => rw [h2] at h; cases h
          | some L' =>
            rw [h2] at h; injection h with h; subst h
            match n, hn with
            | n + 1, hn => exact .cons hk hs (chain_of n _ _ (by omega) h2)
            | 0, hn => omega
        · rw [from_no hk hs] at h; cases h
      · rw [from_past (by omega)] at h; cases h
termination_by n => n
theorem from_chain {l : List UInt64} {k : Nat} {L : List Hb} (h : Chain l k L) : from_ l k = some L := by
  induction h with
  | nil => exact from_end
  | cons hk hs _ ih => rw [from_step hk hs, ih]; rfl
theorem chain_iff {l : List UInt64} {k : Nat} {L : List Hb} : from_ l k = some L ↔ Chain l k L := ⟨chain_of _ _ _ (Nat.le_refl _), from_chain⟩
/-- all blocks of a chain -/
theorem chain_mem {l : List UInt64} {k : Nat} {L : List Hb} (h : Chain l k L) : ∀ b ∈ L, ∃ a : Nat, k ≤ a ∧ a < l.length ∧ StOk l a ∧ b = stand l a ∧ (k % 2 = 0 → a % 2 = 0) := by
  induction h with
  | nil => intro b hb; cases hb
  | cons hk hs hc ih =>
    intro b hb
    rcases List.mem_cons.1 hb with rfl | hb
    · exact ⟨_, Nat.le_refl _, hk, hs, rfl, id⟩
    · obtain ⟨a, h1, h2, h3, h4, h5⟩ := ih b hb
      have := szN_ge hs
      exact ⟨a, by omega, h2, h3, h4, fun h => h5 (by omega)⟩
theorem stand_ok {l : List UInt64} {k : Nat} (h : StOk l k) : BkOk (stand l k) := ok_bare.2 (split_ok h.1)
theorem stand_at (l : List UInt64) (k : Nat) : (stand l k).at_ = k := rfl
theorem stand_size {l : List UInt64} {k : Nat} (h : StOk l k) : (stand l k).size = szN l k := (szN_ge h).2.1.symm
theorem chain_len {l : List UInt64} {k : Nat} {L : List Hb} (h : Chain l k L) : 2 * L.length + k ≤ l.length := by
  induction h with
  | nil => simp
  | cons hk hs hc ih => have := szN_ge hs; simp only [List.length_cons]; omega
theorem parsed_ok {l : List UInt64} {L : List Hb} : parsed l = some L ↔ from_ l 128 = some L ∧ ¬ Adj L := by
  unfold parsed
  generalize from_ l 128 = x
  cases x with
  | none => simp
  | some M =>
    by_cases ha : Adj M
    · simp only [if_pos ha]
      refine ⟨fun e => (by cases e), fun h => ?_⟩
      obtain ⟨e, hn⟩ := h
      have := Option.some.inj e
      subst this
      exact absurd ha hn
    · simp only [if_neg ha]
      refine ⟨fun e => ?_, fun h => h.1⟩
      have := Option.some.inj e
      subst this
      exact ⟨rfl, ha⟩
theorem allErr_ok {l : List UInt64} (h : allErr l = 0) : SizeOk l.length ∧ parsed l = some (allL l) := by
  have h' := h
  unfold allErr at h
  split at h
  · split at h
    · rename_i h1 h2
      obtain ⟨L, hL⟩ := Option.isSome_iff_exists.1 h2
      exact ⟨h1, by simp only [allL, h', hL, if_true, Option.getD_some]⟩
    · omega
  · omega
theorem adj_iff : ∀ {L : List Hb}, Adj L ↔ ∃ (i : Nat) (a b : Hb), L[i]? = some a ∧ L[i + 1]? = some b ∧ a.kind = 2 ∧ b.kind = 2
  | [] => ⟨False.elim, fun ⟨_, _, _, h, _⟩ => by simp at h⟩
  | [x] => ⟨False.elim, fun ⟨i, _, _, _, h, _⟩ => by simp at h⟩
  | x :: y :: L => by
    rw [Adj, adj_iff (L := y :: L)]
    constructor
    · rintro (⟨h1, h2⟩ | ⟨i, a, b, h⟩)
      · exact ⟨0, x, y, rfl, rfl, h1, h2⟩
      · exact ⟨i + 1, a, b, h⟩
    · rintro ⟨i, a, b, h1, h2, h3, h4⟩
      rcases i with _ | i
      · simp at h1 h2; subst h1; subst h2; exact .inl ⟨h3, h4⟩
      · exact .inr ⟨i, a, b, h1, h2, h3, h4⟩
end Go.Proofs.YtbfmdbeeiicabaaGreat.L15
namespace Go.Proofs.YtbfmdbeeiicabaaGreat
open Go.RowKit L02 L14 L15
def bkL (b : Hb) : List Value := [.int .i64 b.at_, .int .i64 b.size, .int .i64 b.kind, .int .i64 b.ty, .bool b.mark, .int .u64 b.next.toNat]
def tabB (L : List Hb) : List Value := L.flatMap bkL
theorem tabB_len (L : List Hb) : (tabB L).length = L.length * 6 := by
  induction L with
  | nil => rfl
  | cons s L ih => rw [tabB, List.flatMap_cons, List.length_append, ← tabB, ih]; simp [bkL]; omega
theorem tabB_get : ∀ (L : List Hb) (k : Nat) (s : Hb), L[k]? = some s → ∀ i, i < 6 → (tabB L)[k * 6 + i]? = (bkL s)[i]?
  | [], _, _, h, _, _ => by cases h
  | t :: L, 0, s, h, i, hi => by
    simp at h; subst h
    rw [tabB, List.flatMap_cons, Nat.zero_mul, Nat.zero_add, List.getElem?_append_left (by simpa [bkL] using hi)]
  | t :: L, k + 1, s, h, i, hi => by
    rw [tabB, List.flatMap_cons, List.getElem?_append_right (by simp [bkL]; omega)]
    rw [show (k + 1) * 6 + i - (bkL t).length = k * 6 + i by simp [bkL]; omega]
    exact tabB_get L k s (by simpa using h) i hi
theorem bkL_one (s : Hb) : ∀ u ∈ bkL s, u.oneCell' = true := by
  intro u hu
  simp [bkL] at hu
  rcases hu with rfl | rfl | rfl | rfl | rfl | rfl <;> rfl
theorem tabB_snoc (L : List Hb) (s : Hb) : tabB L ++ bkL s = tabB (L ++ [s]) := by simp [tabB, List.flatMap_append]
theorem size_block : (Tryz.prog.info? 69).map (·.size) = some 6 := by kernel_rfl
theorem info_block : (Tryz.prog.info? 69).map (fun i => (i.zero, i.size, i.bytes)) = some (some (.agg #[.int .i64 0, .int .i64 0, .int .i64 0, .int .i64 0, .bool false, .int .u64 0]), 6, 48) := by kernel_rfl
/-- A slice of blocks. -/
def Blks (w : World) (v : Value) (L : List Hb) : Prop := Rd w 6 v L.length (tabB L)
def OwnK (w : World) (base : Nat) (v : Value) (L : List Hb) : Prop := w.ownsRow base 69 6 v L.length (tabB L)
theorem OwnK.rd {w : World} {base : Nat} {v : Value} {L : List Hb} (h : OwnK w base v L) : Blks w v L := Rd.of_own h
theorem Blks.below {w w' : World} {v : Value} {L : List Hb} (h : Blks w v L) (hb : Below w.heap.size w w') : Blks w' v L := Rd.below h hb
theorem OwnK.below {w w' : World} {base : Nat} {v : Value} {L : List Hb} (h : OwnK w base v L) (hb : Below w.heap.size w w') : OwnK w' base v L := own_below h hb
theorem OwnK.mono {w : World} {base base' : Nat} {v : Value} {L : List Hb} (h : OwnK w base v L) (hb : base' ≤ base) : OwnK w base' v L := own_mono h hb
theorem OwnK.nil (w : World) (base : Nat) : OwnK w base (.slice none 0 0) [] := World.ownsRow_nil w base _ 6
theorem Blks.nil (w : World) : Blks w (.slice none 0 0) [] := (OwnK.nil w 0).rd
theorem OwnK.of {w : World} {B n : Nat} {v : Value} {xs : List Value} {L : List Hb} (h : w.ownsRow B 69 6 v n xs) (hx : xs = tabB L) : OwnK w B v L := by
  subst hx
  have hn : n = L.length := by have := h.1; rw [tabB_len] at this; omega
  subst hn; exact h
theorem Blks.len {w : World} {v : Value} {L : List Hb} (h : Blks w v L) : ∀ ty W, (Builtin.len_ #[73] ty #[v]).run Tryz.prog W = .ok (.int .i64 (L.length : Int)) W := Rd.len h Tryz.underlying73
theorem Blks.len_le {w : World} {v : Value} {L : List Hb} (h : Blks w v L) : L.length ≤ 9223372036854775807 := Rd.len_le h
theorem Blks.form {w : World} {v : Value} {L : List Hb} (h : Blks w v L) : ∃ A c, v = .slice A L.length c := by
  obtain ⟨A, c, e, _⟩ := h; exact ⟨A, c, e⟩
theorem lit_block {w : World} {e : TypeId} {n : Nat} (s : Hb) (hn : w.heap.size = n) : Rd (w.alloc (.cells #[.int .i64 s.at_, .int .i64 s.size, .int .i64 s.kind, .int .i64 s.ty, .bool s.mark, .int .u64 s.next.toNat] e)) 6 (.slice (some ⟨n, 0, none⟩) 1 1) 1 (bkL s) := by
  subst hn; exact lit_rdK (n := 1) (sz := 6) rfl (by omega)
/-- a block of a slice -/
theorem Blks.at_ {w : World} {v : Value} {L : List Hb} (h : Blks w v L) {k : Nat} (hk : k < L.length) :
    ∃ b o s, (∀ W, (Instr.indexAt 73 v (.int .i64 (k : Int))).run Tryz.prog W = .ok (.pointer (some ⟨b, o, none⟩)) W) ∧ w.cell? ⟨b, o, none⟩ = some (.int .i64 s.at_) ∧ w.cell? ⟨b, o + 1, none⟩ = some (.int .i64 s.size) ∧ w.cell? ⟨b, o + 2, none⟩ = some (.int .i64 s.kind) ∧ w.cell? ⟨b, o + 3, none⟩ = some (.int .i64 s.ty) ∧ w.cell? ⟨b, o + 4, none⟩ = some (.bool s.mark) ∧ w.cell? ⟨b, o + 5, none⟩ = some (.int .u64 s.next.toNat) ∧ Hid (L[k]? = some s) ∧ b < w.heap.size := by
  have hix := fun W => Rd.ixN (P := Tryz.prog) h Tryz.underlying73 size_block hk W
  obtain ⟨b, o, c, rfl, hb, hc, hcell⟩ := Rd.form h (by omega)
  have hs : L[k]? = some L[k] := List.getElem?_eq_getElem hk
  have t0 := tabB_get L k _ hs 0 (by omega)
  have t1 := tabB_get L k _ hs 1 (by omega)
  have t2 := tabB_get L k _ hs 2 (by omega)
  have t3 := tabB_get L k _ hs 3 (by omega)
  have t4 := tabB_get L k _ hs 4 (by omega)
  have t5 := tabB_get L k _ hs 5 (by omega)
  exact ⟨b, o + k * 6, L[k], fun W => hix W, hcell _ _ t0, hcell _ _ t1, hcell _ _ t2, hcell _ _ t3, hcell _ _ t4, hcell _ _ t5, Lib.hid hs, hb⟩
end Go.Proofs.YtbfmdbeeiicabaaGreat
namespace Go.Proofs.YtbfmdbeeiicabaaGreat
open Go.RowKit
theorem grown_set (w : World) (p : Addr) (u : Value) : w.grownBy (w.setCell p u) (some p.block) :=
  ⟨rfl, rfl, rfl, by simp [World.setCell], fun k hk hne => Below.heap_setCell w p u k (fun e => hne (by rw [e]))⟩
theorem own_not_bx {w : World} {B e sz n p : Nat} {v : Value} {xs : List Value} {t : TypeId} {cs : Array Value} (h : w.ownsRow B e sz v n xs) (hg : Bx w p t cs) (hne : e ≠ t) : v.ownBlock = none ∨ v.ownBlock ≠ some p := by
  rcases h.2 with ⟨rfl, _⟩ | ⟨g, cap, cur, rfl, _, hgg, _⟩
  · exact .inl rfl
  · refine .inr ?_
    intro he
    simp [Value.ownBlock] at he
    subst he
    rw [Bx, hgg] at hg
    injection hg with hg
    injection hg with _ h2 _
    exact hne h2
theorem own_set {w : World} {B e sz n p i : Nat} {v u : Value} {xs : List Value} {t : TypeId} {cs : Array Value} (h : w.ownsRow B e sz v n xs) (hg : Bx w p t cs) (hne : e ≠ t) : (w.setCell ⟨p, i, none⟩ u).ownsRow B e sz v n xs :=
  World.ownsRow.kept h (grown_set w ⟨p, i, none⟩ u) (own_not_bx h hg hne)
theorem Bx.grown {w w' : World} {g : Nat} {t : TypeId} {cs : Array Value} {row : Option Nat} (h : Bx w g t cs) (hg : w.grownBy w' row) (hne : row = none ∨ row ≠ some g) : Bx w' g t cs := by
  have hl := h.lt
  unfold Bx at *
  rw [hg.block g hl (by rcases hne with rfl | h; · simp
                        · exact fun e => h e.symm)]
  exact h
theorem own_fresh {w : World} {B e sz n : Nat} {v : Value} {xs : List Value} (h : w.ownsRow B e sz v n xs) : v.ownBlock = none ∨ v.ownBlock ≠ some w.heap.size := by
  cases hv : v.ownBlock with
  | none => exact .inl rfl
  | some g => exact .inr (fun e => by injection e with e; have := (h.lt g hv).2; omega)
/-- a store below the base of a row -/
theorem own_apart {w : World} {B e sz n p i : Nat} {v u : Value} {xs : List Value} (h : w.ownsRow B e sz v n xs) (hp : p < B) : (w.setCell ⟨p, i, none⟩ u).ownsRow B e sz v n xs := by
  refine World.ownsRow.kept h (grown_set w ⟨p, i, none⟩ u) ?_
  cases hv : v.ownBlock with
  | none => exact .inl rfl
  | some g => exact .inr (fun e => by injection e with e; subst e; have := (h.lt g hv).1; omega)
/-- the blocks from lo to hi are as they were -/
def Mid (lo hi : Nat) (w w' : World) : Prop := ∀ k, lo ≤ k → k < hi → w'.heap[k]? = w.heap[k]?
theorem Mid.refl (lo hi : Nat) (w : World) : Mid lo hi w w := fun _ _ _ => rfl
theorem Mid.set {lo hi : Nat} {w w' : World} (h : Mid lo hi w w') {p : Addr} (hp : p.block < lo ∨ hi ≤ p.block) (u : Value) : Mid lo hi w (w'.setCell p u) := fun k h1 h2 =>
  (Below.heap_setCell w' p u k (by omega)).trans (h k h1 h2)
theorem Mid.grown {lo hi : Nat} {w w' w'' : World} {row : Option Nat} (h : Mid lo hi w w') (hs : hi ≤ w'.heap.size) (hg : w'.grownBy w'' row) (hr : ∀ k, row = some k → k < lo ∨ hi ≤ k) : Mid lo hi w w'' := fun k h1 h2 =>
  (hg.block k (by omega) (fun e => by have := hr k e.symm; omega)).trans (h k h1 h2)
theorem Mid.below {lo hi : Nat} {w w' w'' : World} (h : Mid lo hi w w') (hs : hi ≤ w'.heap.size) (hb : Below w'.heap.size w' w'') : Mid lo hi w w'' := fun k h1 h2 =>
  (hb.block k (by omega)).trans (h k h1 h2)
theorem own_mid {lo e sz n : Nat} {w w' : World} {v : Value} {xs : List Value} (h : w.ownsRow lo e sz v n xs) (hm : Mid lo w.heap.size w w') : w'.ownsRow lo e sz v n xs := by
  refine ⟨h.1, h.2.imp id ?_⟩
  rintro ⟨g, cap, cur, h1, h2, h3, h4⟩
  exact ⟨g, cap, cur, h1, h2, (hm g h2 (Array.getElem?_eq_some_iff.1 h3).1).trans h3, h4⟩
end Go.Proofs.YtbfmdbeeiicabaaGreat
namespace Go.Proofs.YtbfmdbeeiicabaaGreat
open Go.RowKit L01 L02 L05 L14 L15
/-- the worlds of two stores into a block -/
def wsK (W : World) (g : Nat) (a : Int) (x : Nat) : Nat → World
  | 0 => W.drew
  | 1 => W.drew.setCell ⟨g, 0, none⟩ (.int .i64 a)
  | _ + 2 => (W.drew.setCell ⟨g, 0, none⟩ (.int .i64 a)).setCell ⟨g, 5, none⟩ (.int .u64 x)
theorem stOk_of {l : List UInt64} {k : Nat} {x : UInt64} (hx : l[k]? = some x) : StOk l k ↔ HdOk x ∧ (k : Int) + (split x).size ≤ l.length := by
  unfold StOk
  rw [show l.getD k 0 = x by rw [List.getD_eq_getElem?_getD, hx]; rfl]
set_option maxRecDepth 100000 in
set_option maxHeartbeats 2000000 in
theorem stands_any (v : Value) (l : List UInt64) (k : Nat) (b : Hb) (r : Int) (hk : k < l.length) (hb : b = if StOk l k then stand l k else .none) (hr : r = if StOk l k then 0 else 50) (w : World) (h : Words w v l) :
    Calls Tryz.prog 100 #[v, .int .i64 k] w fun e w' => e = .returned (.tuple #[.agg #[.int .i64 b.at_, .int .i64 b.size, .int .i64 b.kind, .int .i64 b.ty, .bool b.mark, .int .u64 b.next.toNat], .int .i64 r]) ∧ Below w.heap.size w w' := by
  have B : Below w.heap.size w w := Below.refl _ _
  have H := Lib.hid h
  have hlen := Rd.len_le h
  have lw := Rd.len h Tryz.underlying22
  obtain ⟨ad, x, ia, m0, hx⟩ := h.at_ (P := Tryz.prog) Tryz.underlying22 one_u64 hk
  obtain ⟨N, hN⟩ : ∃ N, N = l.length := ⟨_, rfl⟩
  rw [← hN] at lw hlen
  have hst := stOk_of hx.out
  obtain ⟨s, hs⟩ : ∃ s, s = split x := ⟨_, rfl⟩
  obtain ⟨z, hz⟩ : ∃ z, z = splE x := ⟨_, rfl⟩
  have ST := Lib.hid (fun w => HSplit_any x s z hs hz w)
  have hgk : l.getD k 0 = x := by rw [List.getD_eq_getElem?_getD, hx.out]; rfl
  by_cases hd : HdOk x
  · have hz0 : z = 0 := by rw [hz, splE, if_pos hd]
    subst hz0
    obtain ⟨s1, s2, s3, s4, s5, s6⟩ := (by rw [hs]; exact (split_ok hd).bounds : 2 ≤ s.size ∧ s.size % 2 = 0 ∧ s.size ≤ 1920 ∧ (s.kind = 1 ∨ s.kind = 2) ∧ 0 ≤ s.ty ∧ s.ty < 8)
    have hw : IntKind.i64.wrap ((N : Int) - (k : Int)) = (N : Int) - k := IntWalk.i64_in _ (by omega)
    by_cases hl : (k : Int) + s.size ≤ N
    · have hok : StOk l k := hst.2 ⟨hd, by rw [← hs, ← hN]; exact hl⟩
      obtain ⟨ad2, y, ia2, m1, hy⟩ := h.at_ (P := Tryz.prog) Tryz.underlying22 one_u64 (k := k + 1) (by omega)
      have hr0 : r = 0 := by rw [hr, if_pos hok]
      have hb0 : b = ⟨k, s.size, s.kind, s.ty, s.mark, y⟩ := by
        rw [hb, if_pos hok, stand, hgk, ← hs, show l.getD (k + 1) 0 = y by rw [List.getD_eq_getElem?_getD, hy.out]; rfl]
      have hw1 : IntKind.i64.wrap ((k : Int) + 1) = (k : Int) + 1 := IntWalk.i64_in _ (by omega)
      have ia3 : ∀ W, (Instr.indexAt 22 v (.int .i64 ((k : Int) + 1))).run Tryz.prog W = .ok (.pointer (some ad2)) W := ia2
      have n1 : ¬ ((N : Int) - k < s.size) := by omega
      have n2 : decide ((N : Int) - k < s.size) = false := decide_eq_false n1
      have hs0 : s.at_ = 0 := by rw [hs, split_told hd]; rfl
      have hs5 : s.next = 0 := by rw [hs, split_told hd]; rfl
      obtain ⟨sa, sz, sk, sty, sm, sn⟩ := s
      dsimp only at *
      subst hs0; subst hs5; subst hr0; subst hb0
      have ST' : Hid (∀ w, Calls Tryz.prog 122 #[.int .u64 x.toNat] w fun e w' => e = .returned (.tuple #[.agg #[.int .i64 0, .int .i64 sz, .int .i64 sk, .int .i64 sty, .bool sm, .int .u64 0], .int .i64 0]) ∧ Below w.heap.size w w') := ST
      have HK := Lib.hid (And.intro hk hN)
      have M0 := Lib.hid m1
      clear hst hs hz hgk hd hl hok hb hr hx hy h ST hk hN
      go_enter Tryz.func100, Tryz.ntmps100
      go_upto_region 1 with (fail)
      refine wp_gen (fun Wv => Bx Wv (w.heap.size) (69) (#[.int .i64 0, .int .i64 0, .int .i64 0, .int .i64 0, .bool false, .int .u64 0]) ∧ Below w.heap.size w Wv) ⟨((Bx.at_ (by simp))), ((Below.refl _ w).alloc (by simp <;> omega) _)⟩ ?_
      rintro wa1 ⟨g1, b⟩
      replace m0 := cell_later b m0; replace m1 := cell_later b m1; replace B := B.trans (b.mono B.size); clear b
      have c_g1 := g1.cell; have f_g1 := g1.free; have a_g1 := fun o => (g1.alloc o).cell; have d_g1 := fun o o2 => ((g1.alloc o).alloc o2).cell; have e_g1 := fun o => (g1.alloc o).free
      go_wp2_with fail
      refine (ST'.out _).mono ?_
      rintro e wa2 ⟨rfl, b⟩
      replace m0 := cell_later b m0; replace m1 := cell_later b m1; try clear c_g1 f_g1 a_g1 d_g1 e_g1
      replace g1 := g1.below b; have c_g1 := g1.cell; have f_g1 := g1.free; have a_g1 := fun o => (g1.alloc o).cell; have d_g1 := fun o o2 => ((g1.alloc o).alloc o2).cell; have e_g1 := fun o => (g1.alloc o).free; replace B := B.trans (b.mono B.size); clear b
      have hl1 : w.heap.size < wa2.heap.size := g1.lt
      go_upto_region 2 with (fail)
      refine wp_gen (fun Wv => Bx Wv (wa2.heap.size) (69) (#[.int .i64 0, .int .i64 sz, .int .i64 sk, .int .i64 sty, .bool sm, .int .u64 0]) ∧ Below wa2.heap.size wa2 Wv) ⟨((Bx.at_ (by simp))), ((Below.refl _ wa2).alloc (by simp <;> omega) _)⟩ ?_
      rintro wa3 ⟨g2, b⟩
      replace m0 := cell_later b m0; replace m1 := cell_later b m1; try clear c_g1 f_g1 a_g1 d_g1 e_g1
      replace g1 := g1.below b; have c_g1 := g1.cell; have f_g1 := g1.free; have a_g1 := fun o => (g1.alloc o).cell; have d_g1 := fun o o2 => ((g1.alloc o).alloc o2).cell; have e_g1 := fun o => (g1.alloc o).free; replace B := B.trans (b.mono B.size); clear b
      have c_g2 := g2.cell; have f_g2 := g2.free; have a_g2 := fun o => (g2.alloc o).cell; have d_g2 := fun o o2 => ((g2.alloc o).alloc o2).cell; have e_g2 := fun o => (g2.alloc o).free
      go_upto_region 4 with (fail)
      have hz2 := B.size
      have hp := g2.lt
      have k0 := g2.cell 0; have k5 := (g2.set (i := 0) (.int .i64 (k : Int))).cell 5; have kf := g2.free
      have ne : w.heap.size ≠ wa2.heap.size := by omega
      have A1 : ∀ d, d ≤ 2 → Bx (wsK wa3 wa2.heap.size k y.toNat d) w.heap.size 69 #[.int .i64 0, .int .i64 0, .int .i64 0, .int .i64 0, .bool false, .int .u64 0] := by
        intro d hd
        rcases d with _ | _ | d
        · exact g1
        · exact Bx.far (w := wa3.drew) g1 (p := ⟨wa2.heap.size, 0, none⟩) ne _
        · exact (Bx.far (w := wa3.drew) g1 (p := ⟨wa2.heap.size, 0, none⟩) ne _).far (p := ⟨wa2.heap.size, 5, none⟩) ne _
      have BW : ∀ d, d ≤ 2 → Below w.heap.size w (wsK wa3 wa2.heap.size k y.toNat d) := by
        intro d hd
        rcases d with _ | _ | d
        · exact B.drew
        · exact (B.drew).setCell (p := ⟨wa2.heap.size, 0, none⟩) (by show w.heap.size ≤ wa2.heap.size; omega) _
        · exact ((B.drew).setCell (p := ⟨wa2.heap.size, 0, none⟩) (by show w.heap.size ≤ wa2.heap.size; omega) _).setCell (p := ⟨wa2.heap.size, 5, none⟩) (by show w.heap.size ≤ wa2.heap.size; omega) _
      have BX : ∀ d, d ≤ 2 → Below wa3.heap.size wa3 (wsK wa3 wa2.heap.size k y.toNat d) → True := fun _ _ _ => trivial
      have M1 : ∀ d, d ≤ 2 → (wsK wa3 wa2.heap.size k y.toNat d).cell? ad2 = some (.int .u64 y.toNat) := by
        intro d hd
        exact cell_later (BW d hd) M0.out
      have G2 : Bx (wsK wa3 wa2.heap.size k y.toNat 2) wa2.heap.size 69 #[.int .i64 k, .int .i64 sz, .int .i64 sk, .int .i64 sty, .bool sm, .int .u64 y.toNat] :=
        ((Bx.set (w := wa3.drew) g2 (i := 0) (.int .i64 (k : Int))).set (i := 5) (.int .u64 y.toNat))
      have a1 := fun x : FXN (FL [7, 9] (wsK wa3 wa2.heap.size k y.toNat) 7 2) => (FL.all (ks := [7, 9]) (Ws := wsK wa3 wa2.heap.size k y.toNat) (p := fun V => V.cell? ad2 = some (.int .u64 y.toNat)) M1 x)
      have HX := Lib.hid (And.intro (A1 2 (by omega)) (And.intro G2 (BW 2 (by omega))))
      have s0 : wa3.cell? ⟨wa2.heap.size, 0, none⟩ = some (.int .i64 0) := g2.cell 0
      have s1 : ∀ i, wa3.frozen? ⟨wa2.heap.size, i, none⟩ = false := g2.free
      have s2 : (wa3.setCell ⟨wa2.heap.size, 0, none⟩ (.int .i64 k)).cell? ⟨wa2.heap.size, 5, none⟩ = some (.int .u64 0) := (g2.set (i := 0) (.int .i64 (k : Int))).cell 5
      clear A1 BW BX M1 G2 k0 k5 kf c_g1 f_g1 a_g1 d_g1 e_g1 c_g2 f_g2 a_g2 d_g2 e_g2 m0 m1
      haveI : Nonempty (FXN (FL [7, 9] (wsK wa3 wa2.heap.size k y.toNat) 7 2)) := ⟨⟨_, _, FL.start⟩⟩
      refine wp_region_N (FL [7, 9] (wsK wa3 wa2.heap.size k y.toNat) 7 2) [7, 7, 9] FL.dep (by kernel_rfl) (by kernel_rfl) (by kernel_rfl) FL.start ?_
      iterate 7 (refine wpN_read FL.dep rfl (by decide) ?_; go_big_quiet_step (fail); refine wpQuiet_nil ?_)
      refine wpN_storeD FL.dep rfl 3 (.tmp 34) (.tmp 28) rfl (by rfl) (p := .pointer (some ⟨wa2.heap.size, 0, none⟩)) (u := .int .i64 k) (by rfl) (by rfl) [] (by kernel_rfl) (fun f W' hF h0 h1 => ?_) ?_
      · obtain ⟨rfl, h2⟩ := FL.step (i := 0) rfl (by decide) hF h0 (by intro p hp; omega) (by omega)
        refine ⟨_, ?_, h2⟩
        simp [go_sem, wsK, s0, s1]
      simp only [Act.put, List.setIfInBounds_toArray, List.set_cons_zero, List.set_cons_succ]
      iterate 1 (refine wpN_read FL.dep rfl (by decide) ?_; go_big_quiet_step (fail); refine wpQuiet_nil ?_)
      refine wpN_storeD FL.dep rfl 40 (.tmp 35) (.tmp 33) rfl (by rfl) (p := .pointer (some ⟨wa2.heap.size, 5, none⟩)) (u := .int .u64 y.toNat) (by rfl) (by rfl) [7] (by kernel_rfl) (fun f W' hF h0 h1 => ?_) ?_
      · obtain ⟨rfl, h2⟩ := FL.step (i := 1) rfl (by decide) hF h0 (FL.prev rfl (h1 7 (by simp))) (by omega)
        refine ⟨_, ?_, h2⟩
        simp [go_sem, wsK, s2, s1]
      simp only [Act.put, List.setIfInBounds_toArray, List.set_cons_zero, List.set_cons_succ]
      show ∀ w', _ → _
      intro w' hw'
      obtain rfl := FL.done hw'
      clear a1 s0 s1 s2 hw'
      have hW : wsK wa3 wa2.heap.size k y.toNat ([7, 9] : List Nat).length = wsK wa3 wa2.heap.size k y.toNat 2 := rfl
      rw [hW]
      generalize wsK wa3 wa2.heap.size k y.toNat 2 = V at HX ⊢
      obtain ⟨g1, g2, B⟩ := HX.out
      have c_g1 := g1.cell; have c_g2 := g2.cell; have f_g1 := g1.free; have f_g2 := g2.free
      go_wp2
      refine bodyPost_ret (v := .tuple #[.agg #[.int .i64 k, .int .i64 sz, .int .i64 sk, .int .i64 sty, .bool sm, .int .u64 y.toNat], .int .i64 0]) (by simp [results, Tryz.results100, go_sem, c_g1, c_g2, f_g1, f_g2, ne]) rfl ?_
      refine ⟨rfl, ?_⟩
      (repeat (first | refine Below.setCell ?_ (by first | exact Nat.le_refl _ | (simp <;> omega)) _ | refine Below.alloc ?_ (by first | exact B.size | (have := B.size; simp <;> omega)) _)); exact B
    · have hno : ¬ StOk l k := fun h => hl (by have := (hst.1 h).2; rw [← hs, ← hN] at this; exact this)
      have hr0 : r = 50 := by rw [hr, if_neg hno]
      have hb0 : b = .none := by rw [hb, if_neg hno]
      have n1 : (N : Int) - k < s.size := by omega
      subst hr0; subst hb0
      clear hst hs hz hgk hd hl hno hb hr hx h hN hk
      go_enter Tryz.func100, Tryz.ntmps100
      go_upto_region 1 with (fail)
      refine wp_gen (fun Wv => Bx Wv (w.heap.size) (69) (#[.int .i64 0, .int .i64 0, .int .i64 0, .int .i64 0, .bool false, .int .u64 0]) ∧ Below w.heap.size w Wv) ⟨((Bx.at_ (by simp))), ((Below.refl _ w).alloc (by simp <;> omega) _)⟩ ?_
      rintro wa1 ⟨g1, b⟩
      replace m0 := cell_later b m0; replace B := B.trans (b.mono B.size); clear b
      have c_g1 := g1.cell; have f_g1 := g1.free; have a_g1 := fun o => (g1.alloc o).cell; have d_g1 := fun o o2 => ((g1.alloc o).alloc o2).cell; have e_g1 := fun o => (g1.alloc o).free
      go_wp2_with fail
      refine (ST.out _).mono ?_
      rintro e wa2 ⟨rfl, b⟩
      replace m0 := cell_later b m0; try clear c_g1 f_g1 a_g1 d_g1 e_g1
      replace g1 := g1.below b; have c_g1 := g1.cell; have f_g1 := g1.free; have a_g1 := fun o => (g1.alloc o).cell; have d_g1 := fun o o2 => ((g1.alloc o).alloc o2).cell; have e_g1 := fun o => (g1.alloc o).free; replace B := B.trans (b.mono B.size); clear b
      go_upto_region 2 with (fail)
      refine wp_gen (fun Wv => Bx Wv (wa2.heap.size) (69) (#[.int .i64 s.at_, .int .i64 s.size, .int .i64 s.kind, .int .i64 s.ty, .bool s.mark, .int .u64 s.next.toNat]) ∧ Below wa2.heap.size wa2 Wv) ⟨((Bx.at_ (by simp))), ((Below.refl _ wa2).alloc (by simp <;> omega) _)⟩ ?_
      rintro wa3 ⟨g2, b⟩
      replace m0 := cell_later b m0; try clear c_g1 f_g1 a_g1 d_g1 e_g1
      replace g1 := g1.below b; have c_g1 := g1.cell; have f_g1 := g1.free; have a_g1 := fun o => (g1.alloc o).cell; have d_g1 := fun o o2 => ((g1.alloc o).alloc o2).cell; have e_g1 := fun o => (g1.alloc o).free; replace B := B.trans (b.mono B.size); clear b
      have c_g2 := g2.cell; have f_g2 := g2.free; have a_g2 := fun o => (g2.alloc o).cell; have d_g2 := fun o o2 => ((g2.alloc o).alloc o2).cell; have e_g2 := fun o => (g2.alloc o).free
      go_wp2
      refine bodyPost_ret (v := .tuple #[.agg #[.int .i64 0, .int .i64 0, .int .i64 0, .int .i64 0, .bool false, .int .u64 0], .int .i64 50]) (by simp [results, Tryz.results100, go_sem, c_g1, f_g1, a_g1, e_g1, c_g2, f_g2, a_g2, e_g2]) rfl ?_
      refine ⟨rfl, ?_⟩
      (repeat (first | refine Below.setCell ?_ (by first | exact Nat.le_refl _ | (simp <;> omega)) _ | refine Below.alloc ?_ (by first | exact B.size | (have := B.size; simp <;> omega)) _)); exact B
  · have hz0 : z = 50 := by rw [hz, splE, if_neg hd]
    have hno : ¬ StOk l k := fun h => hd (hst.1 h).1
    have hr0 : r = 50 := by rw [hr, if_neg hno]
    have hb0 : b = .none := by rw [hb, if_neg hno]
    subst hr0; subst hb0; subst hz0
    clear hst hs hz hgk hd hno hb hr hx h hN hk
    go_enter Tryz.func100, Tryz.ntmps100
    go_upto_region 1 with (fail)
    refine wp_gen (fun Wv => Bx Wv (w.heap.size) (69) (#[.int .i64 0, .int .i64 0, .int .i64 0, .int .i64 0, .bool false, .int .u64 0]) ∧ Below w.heap.size w Wv) ⟨((Bx.at_ (by simp))), ((Below.refl _ w).alloc (by simp <;> omega) _)⟩ ?_
    rintro wa1 ⟨g1, b⟩
    replace m0 := cell_later b m0; replace B := B.trans (b.mono B.size); clear b
    have c_g1 := g1.cell; have f_g1 := g1.free; have a_g1 := fun o => (g1.alloc o).cell; have d_g1 := fun o o2 => ((g1.alloc o).alloc o2).cell; have e_g1 := fun o => (g1.alloc o).free
    go_wp2_with fail
    refine (ST.out _).mono ?_
    rintro e wa2 ⟨rfl, b⟩
    replace m0 := cell_later b m0; try clear c_g1 f_g1 a_g1 d_g1 e_g1
    replace g1 := g1.below b; have c_g1 := g1.cell; have f_g1 := g1.free; have a_g1 := fun o => (g1.alloc o).cell; have d_g1 := fun o o2 => ((g1.alloc o).alloc o2).cell; have e_g1 := fun o => (g1.alloc o).free; replace B := B.trans (b.mono B.size); clear b
    go_upto_region 2 with (fail)
    refine wp_gen (fun Wv => Bx Wv (wa2.heap.size) (69) (#[.int .i64 s.at_, .int .i64 s.size, .int .i64 s.kind, .int .i64 s.ty, .bool s.mark, .int .u64 s.next.toNat]) ∧ Below wa2.heap.size wa2 Wv) ⟨((Bx.at_ (by simp))), ((Below.refl _ wa2).alloc (by simp <;> omega) _)⟩ ?_
    rintro wa3 ⟨g2, b⟩
    replace m0 := cell_later b m0; try clear c_g1 f_g1 a_g1 d_g1 e_g1
    replace g1 := g1.below b; have c_g1 := g1.cell; have f_g1 := g1.free; have a_g1 := fun o => (g1.alloc o).cell; have d_g1 := fun o o2 => ((g1.alloc o).alloc o2).cell; have e_g1 := fun o => (g1.alloc o).free; replace B := B.trans (b.mono B.size); clear b
    have c_g2 := g2.cell; have f_g2 := g2.free; have a_g2 := fun o => (g2.alloc o).cell; have d_g2 := fun o o2 => ((g2.alloc o).alloc o2).cell; have e_g2 := fun o => (g2.alloc o).free
    go_wp2
    refine bodyPost_ret (v := .tuple #[.agg #[.int .i64 0, .int .i64 0, .int .i64 0, .int .i64 0, .bool false, .int .u64 0], .int .i64 50]) (by simp [results, Tryz.results100, go_sem, c_g1, f_g1, a_g1, e_g1, c_g2, f_g2, a_g2, e_g2]) rfl ?_
    refine ⟨rfl, ?_⟩
    (repeat (first | refine Below.setCell ?_ (by first | exact Nat.le_refl _ | (simp <;> omega)) _ | refine Below.alloc ?_ (by first | exact B.size | (have := B.size; simp <;> omega)) _)); exact B
end Go.Proofs.YtbfmdbeeiicabaaGreat
namespace Go.Proofs.YtbfmdbeeiicabaaGreat
open Go.RowKit L01 L02 L05 L14 L15
theorem map_append_cons {o : Option (List Hb)} {L0 : List Hb} {b : Hb} : (o.map (b :: ·)).map (L0 ++ ·) = o.map ((L0 ++ [b]) ++ ·) := by
  cases o <;> simp
set_option maxRecDepth 100000 in
set_option maxHeartbeats 2000000 in
theorem From_any (v : Value) (l : List UInt64) (a : Int) (L : List Hb) (r : Int) (hL : L = fromL l a) (hr : r = fromErr l a) (w : World) (h : Words w v l) :
    Calls Tryz.prog 78 #[v, .int .i64 a] w fun e w' => ∃ x, e = .returned (.tuple #[x, .int .i64 r]) ∧ OwnK w' w.heap.size x L ∧ Below w.heap.size w w' := by
  have B : Below w.heap.size w w := Below.refl _ _
  have H := Lib.hid h
  have hlen := Rd.len_le h
  have lw := Rd.len h Tryz.underlying22
  obtain ⟨c, hc⟩ : ∃ c, c = chk l := ⟨_, rfl⟩
  have CT : Hid (∀ w, Words w v l → Calls Tryz.prog 74 #[v] w fun e w' => e = .returned (.int .i64 c) ∧ w = w') := by rw [hc]; exact Lib.hid (fun w h => Check_any v l w h)
  by_cases hs : SizeOk l.length
  case neg =>
    have hr0 : r = 8 := by rw [hr, fromErr, if_neg hs]
    have hL0 : L = [] := by rw [hL, fromL, ← hr, hr0]; rfl
    have hc8 : c = 8 := by rw [hc, chk_no hs]
    subst hr0; subst hL0; subst hc8
    clear hr hL hs hc h lw hlen
    go_enter Tryz.func78, Tryz.ntmps78
    go_wp2_with fail
    refine (CT.out _ (H.out.below B)).mono ?_
    rintro e w' ⟨rfl, rfl⟩
    go_wp2
    go_ret2
    exact ⟨_, rfl, OwnK.nil _ _, B⟩
  case pos =>
    have hc0 : c = 0 := by rw [hc, chk_ok hs]
    subst hc0
    obtain ⟨N, hN⟩ : ∃ N, N = l.length := ⟨_, rfl⟩
    rw [← hN] at lw hlen
    have hs2 := hs
    rw [← hN] at hs2
    obtain ⟨hn1, hn2, hn3⟩ := hs2
    by_cases hin : 128 ≤ a ∧ a ≤ N ∧ a % 2 = 0
    case neg =>
      have hr0 : r = 2 := by rw [hr, fromErr, if_pos hs, if_neg (by rw [← hN]; exact hin)]
      have hL0 : L = [] := by rw [hL, fromL, ← hr, hr0]; rfl
      subst hr0; subst hL0
      have hcase : a < 128 ∨ (128 ≤ a ∧ (N : Int) < a) ∨ (128 ≤ a ∧ a ≤ (N : Int) ∧ (a % 2 != 0) = true) := by
        by_cases h1 : a < 128
        · exact .inl h1
        · by_cases h2 : (N : Int) < a
          · exact .inr (.inl ⟨by omega, h2⟩)
          · exact .inr (.inr ⟨by omega, by omega, by rw [bne_iff_ne]; omega⟩)
      clear hr hL hs hc h hin hN
      rcases hcase with h1 | ⟨h0, h1⟩ | ⟨h0, h1, h2⟩
      all_goals
        go_enter Tryz.func78, Tryz.ntmps78
        go_wp2_with fail
        refine (CT.out _ (H.out.below B)).mono ?_
        rintro e w' ⟨rfl, rfl⟩
        go_wp2
        go_ret2
        exact ⟨_, rfl, OwnK.nil _ _, B⟩
    case pos =>
      obtain ⟨h1, h2, h3⟩ := hin
      obtain ⟨k, rfl⟩ := Int.eq_ofNat_of_zero_le (show 0 ≤ a by omega)
      have hre : r = if (from_ l k).isSome then 0 else 50 := by rw [hr, fromErr, if_pos hs, if_pos (by rw [← hN]; exact ⟨h1, h2, h3⟩), Int.toNat_natCast]
      have hLe : L = (from_ l k).getD [] := by
        rw [hL, fromL, ← hr, hre, Int.toNat_natCast]
        cases from_ l k with
        | none => rfl
        | some M => rfl
      have n1 : ¬ (k : Int) < 128 := by omega
      have n2 : ¬ (N : Int) < (k : Int) := by omega
      have n4 : decide ((k : Int) < 128) = false := decide_eq_false n1
      have n5 : decide (N < k) = false := decide_eq_false (by omega)
      have n6 : ¬ N < k := by omega
      have n3 : (k : Int).tmod 2 = 0 := by rw [Int.tmod_eq_emod_of_nonneg (by omega)]; omega
      have HR := Lib.hid (And.intro hre hLe); have HN := Lib.hid hN
      have hkN : k ≤ N := by omega
      clear hr hL hs hc h hre hLe h1 h2 h3 hN
      go_enter Tryz.func78, Tryz.ntmps78
      go_wp2_with fail
      refine (CT.out _ (H.out.below B)).mono ?_
      rintro e w' ⟨rfl, rfl⟩
      go_wp2
      have HB := Lib.hid B; clear B
      go_loopg [1, 7] (N - k) (fun g i xv wr => ∃ (q : Nat) (L0 : List Hb), q ≤ N ∧ g = N - q ∧ i = .int .i64 q ∧ Hid (OwnK wr w.heap.size xv L0 ∧ from_ l k = (from_ l q).map (L0 ++ ·) ∧ 2 * L0.length ≤ q ∧ Below w.heap.size w wr))
      case atStart => exact ⟨k, [], hkN, rfl, rfl, Lib.hid ⟨OwnK.nil _ _, by cases from_ l k <;> rfl, by simp, HB.out⟩⟩
      case round =>
        obtain ⟨q, L0, hq, rfl, rfl, hh⟩ := hrel
        clear HB
        by_cases hlt : q < N
        · by_cases hso : StOk l q
          · obtain ⟨b, hb⟩ : ∃ b, b = stand l q := ⟨_, rfl⟩
            have ST := Lib.hid (fun w h => stands_any v l q b 0 (by rw [← HN.out]; exact hlt) (by rw [if_pos hso, hb]) (by rw [if_pos hso]) w h)
            have hsz := szN_ge hso
            have hbs : b.size = (szN l q : Int) := by rw [hb]; exact stand_size hso
            have hst := from_step (by rw [← HN.out]; exact hlt) hso
            rw [← hb] at hst
            obtain ⟨z, hz⟩ : ∃ z, z = szN l q := ⟨_, rfl⟩
            rw [← hz] at hsz hbs hst
            rw [← HN.out] at hsz
            obtain ⟨hz1, -, -, hz4, -⟩ := hsz
            have o1 := hh.out.1
            have B := hh.out.2.2.2
            have hl0 := hh.out.2.2.1
            have hfr := hh.out.2.1
            rw [hst, map_append_cons] at hfr
            have HF := Lib.hid hfr
            have hB0 := B.size
            have hwq : IntKind.i64.wrap ((q : Int) + b.size) = ((q + z : Nat) : Int) := by rw [hbs, show ((q + z : Nat) : Int) = (q : Int) + z by omega]; exact IntWalk.i64_in _ (by omega)
            have HZ := Lib.hid (And.intro hz1 hz4)
            clear hb hst hfr hz hbs hso
            go_wp2_with fail
            refine (ST.out _ (H.out.below B)).mono ?_
            rintro e wa1 ⟨rfl, b⟩
            replace o1 := o1.below b; replace B := B.trans (b.mono B.size); clear b
            have hne := own_fresh o1
            go_upto_region 9 with (fail)
            refine wp_gen (fun Wv => Bx Wv (wa1.heap.size) (69) (#[.int .i64 b.at_, .int .i64 b.size, .int .i64 b.kind, .int .i64 b.ty, .bool b.mark, .int .u64 b.next.toNat]) ∧ Below wa1.heap.size wa1 Wv) ⟨((Bx.at_ (by simp))), ((Below.refl _ wa1).alloc (by simp <;> omega) _)⟩ ?_
            rintro wa2 ⟨g2, b⟩
            replace o1 := o1.below b; replace B := B.trans (b.mono B.size); clear b
            have c_g2 := g2.cell; have f_g2 := g2.free; have a_g2 := fun o => (g2.alloc o).cell; have d_g2 := fun o o2 => ((g2.alloc o).alloc o2).cell; have e_g2 := fun o => (g2.alloc o).free
            clear f_g2 a_g2 d_g2 e_g2
            go_wp2_with (at_builtin; refine wpList_append (by rfl) rfl rfl rfl Tryz.underlying73 info_block rfl (by omega) (by exact own_below o1 ((Below.refl _ _).alloc (Nat.le_refl _) _)) (by exact lit_block b (by simp)) (bkL_one b) (by omega) (by omega) (by exact B.alloc B.size _) (Nat.le_refl _) ?_; intro v1 w3 o3 B3 g3; have c_4 := ((g2.alloc _).grown g3 hne).cell; clear c_g2)
            have o4 : OwnK w3 w.heap.size v1 (L0 ++ [b]) := OwnK.of o3 (tabB_snoc L0 b)
            have HO := Lib.hid (And.intro o4 B3)
            go_roundg (N - (q + z))
            case measure => have := HZ.out.1; omega
            case rel => exact ⟨q + z, L0 ++ [b], by have := HZ.out.2; omega, rfl, rfl, Lib.hid ⟨HO.out.1, HF.out, by have := HZ.out.1; simp only [List.length_append, List.length_cons, List.length_nil]; omega, HO.out.2⟩⟩
          · have ST := Lib.hid (fun w h => stands_any v l q .none 50 (by rw [← HN.out]; exact hlt) (by rw [if_neg hso]) (by rw [if_neg hso]) w h)
            have hno := from_no (by rw [← HN.out]; exact hlt) hso
            have hfr := hh.out.2.1
            rw [hno] at hfr
            have hr0 : r = 50 := by rw [HR.out.1, hfr]; rfl
            have hL0 : L = [] := by rw [HR.out.2, hfr]; rfl
            subst hr0; subst hL0
            have B := hh.out.2.2.2
            clear hso hno hfr
            go_wp2_with fail
            refine (ST.out _ (H.out.below B)).mono ?_
            rintro e wa3 ⟨rfl, b⟩
            replace B := B.trans (b.mono B.size); clear b
            go_wp2
            go_ret2
            refine ⟨_, rfl, OwnK.nil _ _, ?_⟩
            (repeat (first | refine Below.setCell ?_ (by first | exact Nat.le_refl _ | (simp <;> omega)) _ | refine Below.alloc ?_ (by first | exact B.size | (have := B.size; simp <;> omega)) _)); exact B
        · obtain rfl : q = N := by omega
          have hfr := hh.out.2.1
          rw [show from_ l q = some [] by rw [HN.out]; exact from_end] at hfr
          have hr0 : r = 0 := by rw [HR.out.1, hfr]; rfl
          have hL0 : L = L0 := by rw [HR.out.2, hfr]; simp
          subst hr0; subst hL0
          have o1 := hh.out.1
          have B := hh.out.2.2.2
          clear hfr
          go_wp2
          go_ret2
          exact ⟨_, rfl, o1, B⟩
end Go.Proofs.YtbfmdbeeiicabaaGreat
namespace Go.Proofs.YtbfmdbeeiicabaaGreat
open Go.RowKit L01 L02 L05 L14 L15
/-- no two free extents side by side among the first j blocks -/
def NoAdj (L : List Hb) (j : Nat) : Prop := ∀ (i : Nat) (a b : Hb), i + 1 < j → L[i]? = some a → L[i + 1]? = some b → ¬ (a.kind = 2 ∧ b.kind = 2)
theorem noAdj_all {L : List Hb} (h : NoAdj L L.length) : ¬ Adj L := fun ha => by
  obtain ⟨i, a, b, h1, h2, h3, h4⟩ := adj_iff.1 ha
  exact h i a b (List.getElem?_eq_some_iff.1 h2).1 h1 h2 ⟨h3, h4⟩
theorem noAdj_step {L : List Hb} {j : Nat} (h : NoAdj L j) (h2 : ∀ (i : Nat) (a b : Hb), j = i + 1 → L[i]? = some a → L[i + 1]? = some b → ¬ (a.kind = 2 ∧ b.kind = 2)) : NoAdj L (j + 1) := fun i a b hi h3 h4 => by
  by_cases e : i + 1 = j
  · exact h2 i a b e.symm h3 h4
  · exact h i a b (by omega) h3 h4
theorem adj_at {L : List Hb} {i : Nat} {a b : Hb} (h1 : L[i]? = some a) (h2 : L[i + 1]? = some b) (h3 : a.kind = 2) (h4 : b.kind = 2) : Adj L := adj_iff.2 ⟨i, a, b, h1, h2, h3, h4⟩
theorem from128 {l : List UInt64} (hs : SizeOk l.length) : fromErr l 128 = if (from_ l 128).isSome then 0 else 50 := by
  have e : (128 : Int).toNat = 128 := rfl
  rw [fromErr, if_pos hs, if_pos (by have := hs.1; omega), e]
theorem fromL128 {l : List UInt64} {M : List Hb} (hs : SizeOk l.length) (hf : from_ l 128 = some M) : fromL l 128 = M := by
  have e : (128 : Int).toNat = 128 := rfl
  rw [fromL, if_pos (by rw [from128 hs, hf, if_pos Option.isSome_some]), e, hf]; rfl
theorem parsed_none {l : List UInt64} (hf : from_ l 128 = none) : parsed l = none := by
  unfold parsed
  generalize from_ l 128 = x at *
  subst hf; rfl
theorem parsed_some {l : List UInt64} {M : List Hb} (hf : from_ l 128 = some M) : parsed l = if Adj M then none else some M := by
  unfold parsed
  generalize from_ l 128 = x at *
  subst hf; rfl
set_option maxRecDepth 100000 in
set_option maxHeartbeats 2000000 in
theorem AllW_any (v : Value) (l : List UInt64) (L : List Hb) (r : Int) (hL : L = allL l) (hr : r = allErr l) (w : World) (h : Words w v l) :
    Calls Tryz.prog 39 #[v] w fun e w' => ∃ x, e = .returned (.tuple #[x, .int .i64 r]) ∧ OwnK w' w.heap.size x L ∧ Below w.heap.size w w' := by
  have B : Below w.heap.size w w := Below.refl _ _
  have H := Lib.hid h
  obtain ⟨L0, hL0⟩ : ∃ L0, L0 = fromL l 128 := ⟨_, rfl⟩
  obtain ⟨r0, hr0⟩ : ∃ r0, r0 = fromErr l 128 := ⟨_, rfl⟩
  have FT := Lib.hid (fun w h => From_any v l 128 L0 r0 hL0 hr0 w h)
  by_cases h0 : r0 = 0
  case neg =>
    have hn : (r0 != 0) = true := by rw [bne_iff_ne]; exact h0
    have hre : r = r0 := by
      rw [hr, allErr]
      by_cases hs : SizeOk l.length
      · rw [if_pos hs]
        rw [from128 hs] at hr0
        cases hf : from_ l 128 with
        | none => rw [hf, if_neg (by simp)] at hr0; rw [hr0, parsed_none hf, if_neg (by simp)]
        | some M => rw [hf, if_pos Option.isSome_some] at hr0; exact absurd hr0 h0
      · rw [if_neg hs, hr0, fromErr, if_neg hs]
    have hL1 : L = [] := by rw [hL, allL, ← hr, hre, if_neg h0]
    subst hL1; subst hre
    clear hL hr hL0 hr0 h h0
    go_enter Tryz.func39, Tryz.ntmps39
    go_wp2_with fail
    refine (FT.out _ (H.out.below B)).mono ?_
    rintro e wa1 ⟨x1, rfl, o1, b⟩
    replace B := B.trans (b.mono B.size); clear b
    go_wp2
    go_ret2
    exact ⟨_, rfl, OwnK.nil _ _, B⟩
  case pos =>
    have hs : SizeOk l.length := by
      rw [h0] at hr0
      by_cases hs : SizeOk l.length
      · exact hs
      · rw [fromErr, if_neg hs] at hr0; omega
    have hf : from_ l 128 = some L0 := by
      rw [h0, from128 hs] at hr0
      cases hf : from_ l 128 with
      | none => rw [hf, if_neg (by simp)] at hr0; omega
      | some M => rw [hL0, fromL128 hs hf]
    have hre : r = if Adj L0 then 50 else 0 := by
      rw [hr, allErr, if_pos hs, parsed_some hf]
      by_cases ha : Adj L0 <;> simp [ha]
    have hLe : L = if Adj L0 then [] else L0 := by
      rw [hL, allL, ← hr, hre, parsed_some hf]
      by_cases ha : Adj L0 <;> simp [ha]
    have HR := Lib.hid (And.intro hre hLe)
    subst h0
    obtain ⟨N, hN⟩ : ∃ N, N = L0.length := ⟨_, rfl⟩
    have HN := Lib.hid hN
    clear hL hr hL0 hr0 h hs hf hre hLe
    go_enter Tryz.func39, Tryz.ntmps39
    go_wp2_with fail
    refine (FT.out _ (H.out.below B)).mono ?_
    rintro e wa1 ⟨x1, rfl, o1, b⟩
    replace B := B.trans (b.mono B.size); clear b
    have lx := o1.rd.len
    have hlen := o1.rd.len_le
    rw [← hN] at lx hlen
    clear hN
    go_wp2
    go_loopg [17] N (fun g i wr => ∃ j : Nat, j ≤ N ∧ g = N - j ∧ i = .int .i64 j ∧ wr = wa1 ∧ Hid (NoAdj L0 j))
    case atStart => exact ⟨0, by omega, by omega, rfl, rfl, Lib.hid (fun i a b h1 => by omega)⟩
    case round =>
      obtain ⟨j, hj, rfl, rfl, rfl, hna⟩ := hrel
      by_cases hlt : j < N
      · obtain ⟨bb, oo, s, ia, _, _, m0, _, _, _, hs, _⟩ := o1.rd.at_ (k := j) (by rw [← HN.out]; exact hlt)
        rcases j with _ | i
        · have n1 : ¬ (0 : Int) < ((0 : Nat) : Int) := by omega
          go_wp2
          go_roundg (N - 1)
          case measure => omega
          case rel => exact ⟨1, by omega, rfl, by go_num, rfl, Lib.hid (noAdj_step hna.out (fun i a b h1 => by omega))⟩
        · obtain ⟨b2, o2, t, ia2, _, _, m1, _, _, _, ht, _⟩ := o1.rd.at_ (k := i) (by rw [← HN.out]; omega)
          have ia3 : ∀ W, (Instr.indexAt 73 x1 (.int .i64 ((i : Int) + 1))).run Tryz.prog W = .ok (.pointer (some ⟨bb, oo, none⟩)) W := ia
          have hw : IntKind.i64.wrap ((i : Int) + 1 - 1) = (i : Int) := by rw [show (i : Int) + 1 - 1 = (i : Int) by omega]; exact IntWalk.i64_in _ (by omega)
          have hw2 : IntKind.i64.wrap (i : Int) = (i : Int) := IntWalk.i64_in _ (by omega)
          have n1 : (0 : Int) < (i : Int) + 1 := by omega
          by_cases hk : t.kind = 2 ∧ s.kind = 2
          · have ha := adj_at ht.out hs.out hk.1 hk.2
            have hr0 : r = 50 := by rw [HR.out.1, if_pos ha]
            have hL0 : L = [] := by rw [HR.out.2, if_pos ha]
            rw [hk.2] at m0; rw [hk.1] at m1
            subst hr0; subst hL0
            clear hk ha
            go_wp2
            go_ret2
            exact ⟨_, rfl, OwnK.nil _ _, B⟩
          · have hna2 : NoAdj L0 (i + 1 + 1) := noAdj_step hna.out (fun i' a b h1 h2 h3 => by
              obtain rfl : i' = i := by omega
              rw [ht.out] at h2; rw [hs.out] at h3
              injection h2 with h2; injection h3 with h3; subst h2; subst h3; exact hk)
            have HNA := Lib.hid hna2; clear hna2
            by_cases hs2 : s.kind = 2
            · have ht2 : (t.kind == 2) = false := by rw [beq_eq_false_iff_ne]; exact fun e => hk ⟨e, hs2⟩
              rw [hs2] at m0
              clear hk hs2
              go_wp2
              go_roundg (N - (i + 1 + 1))
              case measure => omega
              case rel => exact ⟨i + 1 + 1, by omega, rfl, by go_num, rfl, HNA⟩
            · have ht2 : (s.kind == 2) = false := by rw [beq_eq_false_iff_ne]; exact hs2
              clear hk hs2
              go_wp2
              go_roundg (N - (i + 1 + 1))
              case measure => omega
              case rel => exact ⟨i + 1 + 1, by omega, rfl, by go_num, rfl, HNA⟩
      · obtain rfl : j = N := by omega
        have ha : ¬ Adj L0 := noAdj_all (by rw [← HN.out]; exact hna.out)
        have hr0 : r = 0 := by rw [HR.out.1, if_neg ha]
        have hL0 : L = L0 := by rw [HR.out.2, if_neg ha]
        subst hr0; subst hL0
        clear ha
        go_wp2
        go_ret2
        exact ⟨_, rfl, o1, B⟩
end Go.Proofs.YtbfmdbeeiicabaaGreat
namespace Go.Proofs.YtbfmdbeeiicabaaGreat
open Go.RowKit L01 L02 L05 L14 L15
set_option maxRecDepth 100000 in
set_option maxHeartbeats 2000000 in
theorem AtR_any (v : Value) (l : List UInt64) (k : Nat) (b : Hb) (r : Bool) (hk : k < l.length) (hb : b = if StOk l k then stand l k else .none) (hr : r = decide (StOk l k)) (hl63 : l.length ≤ 1000000) (w : World) (h : Words w v l) :
    Calls Tryz.prog 96 #[v, .int .i64 k] w fun e w' => e = .returned (.tuple #[.agg #[.int .i64 b.at_, .int .i64 b.size, .int .i64 b.kind, .int .i64 b.ty, .bool b.mark, .int .u64 b.next.toNat], .bool r]) ∧ Below w.heap.size w w' := by
  have B : Below w.heap.size w w := Below.refl _ _
  have H := Lib.hid h
  have lw := Rd.len h Tryz.underlying22
  obtain ⟨ad, x, ia, m0, hx⟩ := h.at_ (P := Tryz.prog) Tryz.underlying22 one_u64 hk
  obtain ⟨N, hN⟩ : ∃ N, N = l.length := ⟨_, rfl⟩
  rw [← hN] at lw
  have hst := stOk_of hx.out
  obtain ⟨s, hs⟩ : ∃ s, s = split x := ⟨_, rfl⟩
  obtain ⟨z, hz⟩ : ∃ z, z = decide (HdOk x) := ⟨_, rfl⟩
  have ST := Lib.hid (fun w => HSplitR_any x s z hs hz w)
  have hgk : l.getD k 0 = x := by rw [List.getD_eq_getElem?_getD, hx.out]; rfl
  have n7 : ¬ (k : Int) < 0 := by omega
  have n8 : ¬ (N : Int) ≤ (k : Int) := by omega
  by_cases hd : HdOk x
  · have hz0 : z = true := by rw [hz, decide_eq_true hd]
    subst hz0
    obtain ⟨s1, s2, s3, s4, s5, s6⟩ := (by rw [hs]; exact (split_ok hd).bounds : 2 ≤ s.size ∧ s.size % 2 = 0 ∧ s.size ≤ 1920 ∧ (s.kind = 1 ∨ s.kind = 2) ∧ 0 ≤ s.ty ∧ s.ty < 8)
    have hw : IntKind.i64.wrap ((k : Int) + s.size) = (k : Int) + s.size := IntWalk.i64_in _ (by omega)
    by_cases hl : (k : Int) + s.size ≤ N
    · have hok : StOk l k := hst.2 ⟨hd, by rw [← hs, ← hN]; exact hl⟩
      obtain ⟨ad2, y, ia2, m1, hy⟩ := h.at_ (P := Tryz.prog) Tryz.underlying22 one_u64 (k := k + 1) (by omega)
      have hr0 : r = true := by rw [hr, decide_eq_true hok]
      have hb0 : b = ⟨k, s.size, s.kind, s.ty, s.mark, y⟩ := by
        rw [hb, if_pos hok, stand, hgk, ← hs, show l.getD (k + 1) 0 = y by rw [List.getD_eq_getElem?_getD, hy.out]; rfl]
      have hw1 : IntKind.i64.wrap ((k : Int) + 1) = (k : Int) + 1 := IntWalk.i64_in _ (by omega)
      have ia3 : ∀ W, (Instr.indexAt 22 v (.int .i64 ((k : Int) + 1))).run Tryz.prog W = .ok (.pointer (some ad2)) W := ia2
      have n1 : ¬ ((N : Int) < (k : Int) + s.size) := by omega
      have hs0 : s.at_ = 0 := by rw [hs, split_told hd]; rfl
      have hs5 : s.next = 0 := by rw [hs, split_told hd]; rfl
      obtain ⟨sa, sz, sk, sty, sm, sn⟩ := s
      dsimp only at *
      subst hs0; subst hs5; subst hr0; subst hb0
      have ST' : Hid (∀ w, Calls Tryz.prog 121 #[.int .u64 x.toNat] w fun e w' => e = .returned (.tuple #[.agg #[.int .i64 0, .int .i64 sz, .int .i64 sk, .int .i64 sty, .bool sm, .int .u64 0], .bool true]) ∧ Below w.heap.size w w') := ST
      have M0 := Lib.hid m1
      clear hst hs hz hgk hd hl hok hb hr hx hy h ST hk hN m1
      go_enter Tryz.func96, Tryz.ntmps96
      go_upto_region 1 with (fail)
      refine wp_gen (fun Wv => Bx Wv (w.heap.size) (69) (#[.int .i64 0, .int .i64 0, .int .i64 0, .int .i64 0, .bool false, .int .u64 0]) ∧ Below w.heap.size w Wv) ⟨((Bx.at_ (by simp))), ((Below.refl _ w).alloc (by simp <;> omega) _)⟩ ?_
      rintro wa1 ⟨g1, b⟩
      replace m0 := cell_later b m0; replace B := B.trans (b.mono B.size); clear b
      have c_g1 := g1.cell; have f_g1 := g1.free; have a_g1 := fun o => (g1.alloc o).cell; have d_g1 := fun o o2 => ((g1.alloc o).alloc o2).cell; have e_g1 := fun o => (g1.alloc o).free
      go_wp2_with fail
      refine (ST'.out _).mono ?_
      rintro e wa2 ⟨rfl, b⟩
      replace m0 := cell_later b m0; try clear c_g1 f_g1 a_g1 d_g1 e_g1
      replace g1 := g1.below b; have c_g1 := g1.cell; have f_g1 := g1.free; have a_g1 := fun o => (g1.alloc o).cell; have d_g1 := fun o o2 => ((g1.alloc o).alloc o2).cell; have e_g1 := fun o => (g1.alloc o).free; replace B := B.trans (b.mono B.size); clear b
      go_upto_region 4 with (fail)
      have hl1 : w.heap.size < wa2.heap.size := g1.lt
      refine wp_gen (fun Wv => Bx Wv (wa2.heap.size) (69) (#[.int .i64 0, .int .i64 sz, .int .i64 sk, .int .i64 sty, .bool sm, .int .u64 0]) ∧ Below wa2.heap.size wa2 Wv) ⟨((Bx.at_ (by simp))), ((Below.refl _ wa2).alloc (by simp <;> omega) _)⟩ ?_
      rintro wa3 ⟨g2, b⟩
      replace m0 := cell_later b m0; try clear c_g1 f_g1 a_g1 d_g1 e_g1
      replace g1 := g1.below b; have c_g1 := g1.cell; have f_g1 := g1.free; have a_g1 := fun o => (g1.alloc o).cell; have d_g1 := fun o o2 => ((g1.alloc o).alloc o2).cell; have e_g1 := fun o => (g1.alloc o).free; replace B := B.trans (b.mono B.size); clear b
      have c_g2 := g2.cell; have f_g2 := g2.free; have a_g2 := fun o => (g2.alloc o).cell; have d_g2 := fun o o2 => ((g2.alloc o).alloc o2).cell; have e_g2 := fun o => (g2.alloc o).free
      have ne : w.heap.size ≠ wa2.heap.size := by omega
      have hp : w.heap.size ≤ wa2.heap.size := by omega
      go_upto_region 7 with (fail)
      have HG := Lib.hid (And.intro (g1.far (p := ⟨wa2.heap.size, 0, none⟩) ne (.int .i64 (k : Int))) (And.intro (g2.set (i := 0) (.int .i64 (k : Int))) (B.setCell (p := ⟨wa2.heap.size, 0, none⟩) hp (.int .i64 (k : Int)))))
      refine wp_gen (fun V => Bx V w.heap.size 69 #[.int .i64 0, .int .i64 0, .int .i64 0, .int .i64 0, .bool false, .int .u64 0] ∧ Bx V wa2.heap.size 69 #[.int .i64 k, .int .i64 sz, .int .i64 sk, .int .i64 sty, .bool sm, .int .u64 0] ∧ Below w.heap.size w V) HG.out ?_
      clear HG g1 g2 B c_g1 f_g1 a_g1 d_g1 e_g1 c_g2 f_g2 a_g2 d_g2 e_g2 m0
      rintro V ⟨g1, g2, B⟩
      have m1 := cell_later B M0.out
      have c_g1 := g1.cell; have c_g2 := g2.cell; have f_g1 := g1.free; have f_g2 := g2.free
      have G2 := g2.set (i := 5) (.int .u64 y.toNat)
      have c_G2 := G2.cell
      go_wp2
      refine bodyPost_ret (v := .tuple #[.agg #[.int .i64 k, .int .i64 sz, .int .i64 sk, .int .i64 sty, .bool sm, .int .u64 y.toNat], .bool true]) (by simp [results, Tryz.results96, go_sem, c_g1, c_g2, f_g1, f_g2, ne, ne.symm]) rfl ?_
      refine ⟨rfl, ?_⟩
      (repeat (first | refine Below.setCell ?_ (by first | exact Nat.le_refl _ | (simp <;> omega)) _ | refine Below.alloc ?_ (by first | exact B.size | (have := B.size; simp <;> omega)) _)); exact B
    · have hno : ¬ StOk l k := fun h => hl (by have := (hst.1 h).2; rw [← hs, ← hN] at this; exact this)
      have hr0 : r = false := by rw [hr, decide_eq_false hno]
      have hb0 : b = .none := by rw [hb, if_neg hno]
      have n1 : (N : Int) < (k : Int) + s.size := by omega
      subst hr0; subst hb0
      clear hst hs hz hgk hd hl hno hb hr hx h hN hk
      go_enter Tryz.func96, Tryz.ntmps96
      go_upto_region 1 with (fail)
      refine wp_gen (fun Wv => Bx Wv (w.heap.size) (69) (#[.int .i64 0, .int .i64 0, .int .i64 0, .int .i64 0, .bool false, .int .u64 0]) ∧ Below w.heap.size w Wv) ⟨((Bx.at_ (by simp))), ((Below.refl _ w).alloc (by simp <;> omega) _)⟩ ?_
      rintro wa1 ⟨g1, b⟩
      replace m0 := cell_later b m0; replace B := B.trans (b.mono B.size); clear b
      have c_g1 := g1.cell; have f_g1 := g1.free; have a_g1 := fun o => (g1.alloc o).cell; have d_g1 := fun o o2 => ((g1.alloc o).alloc o2).cell; have e_g1 := fun o => (g1.alloc o).free
      go_wp2_with fail
      refine (ST.out _).mono ?_
      rintro e wa2 ⟨rfl, b⟩
      replace m0 := cell_later b m0; try clear c_g1 f_g1 a_g1 d_g1 e_g1
      replace g1 := g1.below b; have c_g1 := g1.cell; have f_g1 := g1.free; have a_g1 := fun o => (g1.alloc o).cell; have d_g1 := fun o o2 => ((g1.alloc o).alloc o2).cell; have e_g1 := fun o => (g1.alloc o).free; replace B := B.trans (b.mono B.size); clear b
      go_upto_region 4 with (fail)
      refine wp_gen (fun Wv => Bx Wv (wa2.heap.size) (69) (#[.int .i64 s.at_, .int .i64 s.size, .int .i64 s.kind, .int .i64 s.ty, .bool s.mark, .int .u64 s.next.toNat]) ∧ Below wa2.heap.size wa2 Wv) ⟨((Bx.at_ (by simp))), ((Below.refl _ wa2).alloc (by simp <;> omega) _)⟩ ?_
      rintro wa3 ⟨g2, b⟩
      replace m0 := cell_later b m0; try clear c_g1 f_g1 a_g1 d_g1 e_g1
      replace g1 := g1.below b; have c_g1 := g1.cell; have f_g1 := g1.free; have a_g1 := fun o => (g1.alloc o).cell; have d_g1 := fun o o2 => ((g1.alloc o).alloc o2).cell; have e_g1 := fun o => (g1.alloc o).free; replace B := B.trans (b.mono B.size); clear b
      have c_g2 := g2.cell; have f_g2 := g2.free; have a_g2 := fun o => (g2.alloc o).cell; have d_g2 := fun o o2 => ((g2.alloc o).alloc o2).cell; have e_g2 := fun o => (g2.alloc o).free
      go_wp2
      refine bodyPost_ret (v := .tuple #[.agg #[.int .i64 0, .int .i64 0, .int .i64 0, .int .i64 0, .bool false, .int .u64 0], .bool false]) (by simp [results, Tryz.results96, go_sem, c_g1, f_g1, a_g1, e_g1, c_g2, f_g2, a_g2, e_g2]) rfl ?_
      refine ⟨rfl, ?_⟩
      (repeat (first | refine Below.setCell ?_ (by first | exact Nat.le_refl _ | (simp <;> omega)) _ | refine Below.alloc ?_ (by first | exact B.size | (have := B.size; simp <;> omega)) _)); exact B
  · have hz0 : z = false := by rw [hz, decide_eq_false hd]
    have hno : ¬ StOk l k := fun h => hd (hst.1 h).1
    have hr0 : r = false := by rw [hr, decide_eq_false hno]
    have hb0 : b = .none := by rw [hb, if_neg hno]
    subst hr0; subst hb0; subst hz0
    clear hst hs hz hgk hd hno hb hr hx h hN hk
    go_enter Tryz.func96, Tryz.ntmps96
    go_upto_region 1 with (fail)
    refine wp_gen (fun Wv => Bx Wv (w.heap.size) (69) (#[.int .i64 0, .int .i64 0, .int .i64 0, .int .i64 0, .bool false, .int .u64 0]) ∧ Below w.heap.size w Wv) ⟨((Bx.at_ (by simp))), ((Below.refl _ w).alloc (by simp <;> omega) _)⟩ ?_
    rintro wa1 ⟨g1, b⟩
    replace m0 := cell_later b m0; replace B := B.trans (b.mono B.size); clear b
    have c_g1 := g1.cell; have f_g1 := g1.free; have a_g1 := fun o => (g1.alloc o).cell; have d_g1 := fun o o2 => ((g1.alloc o).alloc o2).cell; have e_g1 := fun o => (g1.alloc o).free
    go_wp2_with fail
    refine (ST.out _).mono ?_
    rintro e wa2 ⟨rfl, b⟩
    replace m0 := cell_later b m0; try clear c_g1 f_g1 a_g1 d_g1 e_g1
    replace g1 := g1.below b; have c_g1 := g1.cell; have f_g1 := g1.free; have a_g1 := fun o => (g1.alloc o).cell; have d_g1 := fun o o2 => ((g1.alloc o).alloc o2).cell; have e_g1 := fun o => (g1.alloc o).free; replace B := B.trans (b.mono B.size); clear b
    go_upto_region 4 with (fail)
    refine wp_gen (fun Wv => Bx Wv (wa2.heap.size) (69) (#[.int .i64 s.at_, .int .i64 s.size, .int .i64 s.kind, .int .i64 s.ty, .bool s.mark, .int .u64 s.next.toNat]) ∧ Below wa2.heap.size wa2 Wv) ⟨((Bx.at_ (by simp))), ((Below.refl _ wa2).alloc (by simp <;> omega) _)⟩ ?_
    rintro wa3 ⟨g2, b⟩
    replace m0 := cell_later b m0; try clear c_g1 f_g1 a_g1 d_g1 e_g1
    replace g1 := g1.below b; have c_g1 := g1.cell; have f_g1 := g1.free; have a_g1 := fun o => (g1.alloc o).cell; have d_g1 := fun o o2 => ((g1.alloc o).alloc o2).cell; have e_g1 := fun o => (g1.alloc o).free; replace B := B.trans (b.mono B.size); clear b
    have c_g2 := g2.cell; have f_g2 := g2.free; have a_g2 := fun o => (g2.alloc o).cell; have d_g2 := fun o o2 => ((g2.alloc o).alloc o2).cell; have e_g2 := fun o => (g2.alloc o).free
    go_wp2
    refine bodyPost_ret (v := .tuple #[.agg #[.int .i64 0, .int .i64 0, .int .i64 0, .int .i64 0, .bool false, .int .u64 0], .bool false]) (by simp [results, Tryz.results96, go_sem, c_g1, f_g1, a_g1, e_g1, c_g2, f_g2, a_g2, e_g2]) rfl ?_
    refine ⟨rfl, ?_⟩
    (repeat (first | refine Below.setCell ?_ (by first | exact Nat.le_refl _ | (simp <;> omega)) _ | refine Below.alloc ?_ (by first | exact B.size | (have := B.size; simp <;> omega)) _)); exact B
end Go.Proofs.YtbfmdbeeiicabaaGreat
namespace Go.Proofs.YtbfmdbeeiicabaaGreat
open Go.RowKit
theorem info_boolF : (Tryz.prog.info? 4).map (fun i => (i.zero, i.size, i.bytes)) = some (some (.bool false), 1, 1) := by kernel_rfl
theorem one_bool : (Tryz.prog.info? 4).map (·.size) = some 1 := by kernel_rfl
end Go.Proofs.YtbfmdbeeiicabaaGreat
namespace Go.Proofs.YtbfmdbeeiicabaaGreat
open Go.RowKit L01 L02 L05 L14 L15
/-- from which addresses on there are blocks, as far as this is known from address j on -/
def rgB (l : List UInt64) (j q : Nat) : Bool := decide (j ≤ q ∧ q % 2 = 0 ∧ (from_ l q).isSome = true)
def rg (l : List UInt64) (j : Nat) : List Bool := (List.range (l.length + 1)).map (rgB l j)
theorem rg_len (l : List UInt64) (j : Nat) : (rg l j).length = l.length + 1 := by simp [rg]
theorem rg_get {l : List UInt64} {j q : Nat} (hq : q ≤ l.length) : (rg l j)[q]? = some (rgB l j q) := by
  simp [rg, List.getElem?_map, List.getElem?_range (show q < l.length + 1 by omega)]
theorem rg_start {l : List UInt64} (hl : l.length % 2 = 0) : (List.replicate (l.length + 1) false).set l.length true = rg l l.length := by
  apply List.ext_getElem?
  intro q
  by_cases hq : q ≤ l.length
  · rw [rg_get hq]
    by_cases e : q = l.length
    · subst e
      rw [List.getElem?_set_self (by simp)]
      unfold rgB
      rw [from_end, decide_eq_true ⟨Nat.le_refl _, hl, rfl⟩]
    · rw [List.getElem?_set_ne (Ne.symm e), List.getElem?_replicate, if_pos (by omega)]
      unfold rgB
      rw [decide_eq_false (fun h => by omega)]
  · rw [List.getElem?_eq_none (by simp; omega), List.getElem?_eq_none (by rw [rg_len]; omega)]
theorem rg_step {l : List UInt64} {j : Nat} (h2 : 2 ≤ j) (hj : j ≤ l.length) (he : j % 2 = 0) : (rg l j).set (j - 2) (from_ l (j - 2)).isSome = rg l (j - 2) := by
  apply List.ext_getElem?
  intro q
  by_cases hq : q ≤ l.length
  · rw [rg_get hq]
    by_cases e : j - 2 = q
    · subst e
      rw [List.getElem?_set_self (by rw [rg_len]; omega)]
      unfold rgB
      congr 1
      rw [Bool.eq_iff_iff, decide_eq_true_iff]
      exact ⟨fun h => ⟨Nat.le_refl _, by omega, h⟩, fun h => h.2.2⟩
    · rw [List.getElem?_set_ne e, rg_get hq]
      unfold rgB
      congr 1
      rw [Bool.eq_iff_iff, decide_eq_true_iff, decide_eq_true_iff]
      constructor
      · rintro ⟨a, b, c⟩; exact ⟨by omega, b, c⟩
      · rintro ⟨a, b, c⟩; exact ⟨by omega, b, c⟩
  · rw [List.getElem?_eq_none (by rw [List.length_set, rg_len]; omega), List.getElem?_eq_none (by rw [rg_len]; omega)]
/-- A slice of bools of the call's own. -/
def OwnBl (w : World) (base : Nat) (v : Value) (R : List Bool) : Prop := w.ownsRow base 4 1 v R.length (R.map .bool)
theorem OwnBl.below {w w' : World} {base : Nat} {v : Value} {R : List Bool} (h : OwnBl w base v R) (hb : Below w.heap.size w w') : OwnBl w' base v R := own_below h hb
theorem OwnBl.of {w : World} {B n : Nat} {v : Value} {xs : List Value} {R : List Bool} (h : w.ownsRow B 4 1 v n xs) (hx : xs = R.map .bool) : OwnBl w B v R := by
  subst hx
  have hn : n = R.length := by have := h.1; simp at this; omega
  subst hn; exact h
theorem OwnBl.at_ {w : World} {base : Nat} {v : Value} {R : List Bool} (h : OwnBl w base v R) {k : Nat} {b : Bool} (hk : R[k]? = some b) :
    ∃ ad, (∀ W, (Instr.indexAt 170 v (.int .i64 (k : Int))).run Tryz.prog W = .ok (.pointer (some ad)) W) ∧ w.cell? ad = some (.bool b) ∧ w.frozen? ad = false ∧ base ≤ ad.block ∧ ∀ u, OwnBl (w.setCell ad (.bool u)) base v (R.set k u) := by
  obtain ⟨ad, u0, h1, h2, h3, h4, h5, h6⟩ := own_at (P := Tryz.prog) h Tryz.underlying170 one_bool (k := (k : Int)) (by omega) (by have := (List.getElem?_eq_some_iff.1 hk).1; omega)
  have h5 := h5.out
  rw [Int.toNat_natCast, List.getElem?_map, hk] at h5
  injection h5 with h5
  refine ⟨ad, h1, by rw [h2, ← h5], h3, h4, fun u => OwnBl.of (h6 (.bool u)) ?_⟩
  rw [Int.toNat_natCast, List.map_set]
set_option maxRecDepth 100000 in
set_option maxHeartbeats 4000000 in
theorem FromR_any (v : Value) (l : List UInt64) (hs : SizeOk l.length) (L : List Hb) (r : Bool) (hL : L = (from_ l 128).getD []) (hr : r = (from_ l 128).isSome) (w : World) (h : Words w v l) :
    Calls Tryz.prog 73 #[v, .int .i64 128] w fun e w' => ∃ x, e = .returned (.tuple #[x, .bool r]) ∧ OwnK w' w.heap.size x L ∧ Below w.heap.size w w' := by
  have B : Below w.heap.size w w := Below.refl _ _
  have H := Lib.hid h
  have lw := Rd.len h Tryz.underlying22
  obtain ⟨N, hN⟩ : ∃ N, N = l.length := ⟨_, rfl⟩
  rw [← hN] at lw
  have hs2 := hs
  rw [← hN] at hs2
  obtain ⟨hn1, hn2, hn3⟩ := hs2
  have HN := Lib.hid hN; have HR := Lib.hid (And.intro hr hL)
  have hw0 : IntKind.i64.wrap ((N : Int) + 1) = (N : Int) + 1 := IntWalk.i64_in _ (by omega)
  have hw2 : IntKind.i64.wrap ((N : Int) - 2) = (N : Int) - 2 := IntWalk.i64_in _ (by omega)
  have hN8 : N % 8 = 0 := by omega
  clear hr hL h hs hN
  go_enter Tryz.func73, Tryz.ntmps73
  go_upto_region 2 with (at_make; refine wpList_makeI (by rfl) rfl (by rfl) (by rfl) Tryz.underlying170 info_boolF rfl (by omega) (by omega) (by omega) B (Nat.le_refl _) ?_; intro vS wb oS bS bS2)
  have o0 : OwnBl wb w.heap.size vS (List.replicate (l.length + 1) false) := OwnBl.of oS (by rw [List.map_replicate, ← HN.out]; congr 1)
  obtain ⟨ad, ia, ca, fa, hb, hst⟩ := o0.at_ (k := N) (b := false) (by rw [List.getElem?_replicate, if_pos (by rw [HN.out]; omega)])
  have o1 := hst true
  rw [HN.out, rg_start (by rw [← HN.out]; omega)] at o1
  have HO := Lib.hid (And.intro o1 (bS.setCell (p := ad) hb (.bool true)))
  clear o0 o1 hst bS2 oS B
  go_wp2
  go_loopg [7] N (fun g i wr => ∃ j : Nat, 128 ≤ j ∧ j ≤ N ∧ j % 2 = 0 ∧ g = j ∧ i = .int .i64 ((j : Int) - 2) ∧ Hid (OwnBl wr w.heap.size vS (rg l j) ∧ Below w.heap.size w wr))
  case atStart => exact ⟨N, by omega, by omega, by omega, rfl, rfl, by rw [← HN.out] at HO; exact HO⟩
  case round =>
    obtain ⟨j, hj1, hj2, hj3, hgj, rfl, hh⟩ := hrel
    clear ia ca fa hb HO bS
    by_cases hlt : 130 ≤ j
    · obtain ⟨i, hij⟩ : ∃ i, j = i + 2 := ⟨j - 2, by omega⟩
      subst hij
      subst hgj
      have hwi : ((i + 2 : Nat) : Int) - 2 = (i : Int) := by omega
      rw [hwi]
      have q1 : ¬ (i : Int) < 128 := by omega
      have q2 : ¬ (i : Int) < 0 := by omega
      have q3 : (128 : Int) ≤ (i : Int) := by omega
      have hwj : IntKind.i64.wrap ((i : Int) - 2) = (i : Int) - 2 := IntWalk.i64_in _ (by omega)
      have hstep := rg_step (l := l) (j := i + 2) (by omega) (by rw [← HN.out]; omega) (by omega)
      rw [show i + 2 - 2 = i by omega] at hstep
      have HS := Lib.hid hstep
      have o1 := hh.out.1
      have B := hh.out.2
      have hB0 := B.size
      clear hstep
      by_cases hso : StOk l i
      · have hsz := szN_ge hso
        obtain ⟨z, hz⟩ : ∃ z, z = szN l i := ⟨_, rfl⟩
        obtain ⟨b, hbb⟩ : ∃ b, b = stand l i := ⟨_, rfl⟩
        have AT := Lib.hid (fun w h => AtR_any v l i b true (by rw [← HN.out]; omega) (by rw [if_pos hso, hbb]) (by rw [decide_eq_true hso]) (by rw [← HN.out]; omega) w h)
        have hbs : b.size = (z : Int) := by rw [hbb, hz]; exact stand_size hso
        have hfs := from_step (by rw [← HN.out]; omega) hso
        rw [← hz] at hsz hfs
        rw [← HN.out] at hsz
        obtain ⟨hz1, -, hz3, hz4, -⟩ := hsz
        have hval : rgB l (i + 2) (i + z) = (from_ l i).isSome := by
          unfold rgB
          rw [hfs, Option.isSome_map, Bool.eq_iff_iff, decide_eq_true_iff]
          exact ⟨fun h => h.2.2, fun h => ⟨by omega, by omega, h⟩⟩
        have hwz : IntKind.i64.wrap ((i : Int) + b.size) = (i : Int) + (z : Int) := by rw [hbs]; exact IntWalk.i64_in _ (by omega)
        obtain ⟨y, hy⟩ : ∃ y, y = (from_ l i).isSome := ⟨_, rfl⟩
        rw [← hy] at hval
        have HV := Lib.hid (And.intro hval hy)
        have HZ := Lib.hid (show i + z ≤ l.length by rw [← HN.out]; exact hz4)
        clear hz hbb hfs hval hy hbs hso hz1 hz3 hz4
        go_wp2_with fail
        refine (AT.out _ (H.out.below B)).mono ?_
        rintro e wa1 ⟨rfl, b⟩
        replace o1 := o1.below b; replace B := B.trans (b.mono B.size); clear b
        go_upto_region 7 with (fail)
        refine wp_gen (fun Wv => Bx Wv (wa1.heap.size) (69) (#[.int .i64 b.at_, .int .i64 b.size, .int .i64 b.kind, .int .i64 b.ty, .bool b.mark, .int .u64 b.next.toNat]) ∧ Below wa1.heap.size wa1 Wv) ⟨((Bx.at_ (by simp))), ((Below.refl _ wa1).alloc (by simp <;> omega) _)⟩ ?_
        rintro wa2 ⟨g2, b⟩
        replace o1 := o1.below b; replace B := B.trans (b.mono B.size); clear b
        have c_g2 := g2.cell; have f_g2 := g2.free; have a_g2 := fun o => (g2.alloc o).cell; have d_g2 := fun o o2 => ((g2.alloc o).alloc o2).cell; have e_g2 := fun o => (g2.alloc o).free
        obtain ⟨ad, ia, ca, fa, hb, hst⟩ := o1.at_ (k := i) (b := rgB l (i + 2) i) (rg_get (by rw [← HN.out]; omega))
        obtain ⟨ad2, ia2, ca2, fa2, hb2, -⟩ := o1.at_ (k := i + z) (b := y) (by rw [rg_get HZ.out, HV.out.1])
        have ia3 : ∀ W, (Instr.indexAt 170 vS (.int .i64 ((i : Int) + (z : Int)))).run Tryz.prog W = .ok (.pointer (some ad2)) W := ia2
        have hst2 := hst y
        rw [HV.out.2, HS.out] at hst2
        have HO := Lib.hid (And.intro hst2 (B.setCell (p := ad) hb (.bool (from_ l i).isSome)))
        rw [← HV.out.2] at HO
        clear hst hst2 ia2
        go_upto_region 5 with (fail)
        refine wp_gen (fun V => OwnBl V w.heap.size vS (rg l i) ∧ Below w.heap.size w V) HO.out ?_
        clear HO ia ca fa hb ia3 ca2 fa2 hb2 o1 B g2 c_g2 f_g2 a_g2 d_g2 e_g2
        rintro V HO
        have HO2 := Lib.hid HO
        clear HO
        go_wp2
        go_roundg i
        case measure => omega
        case rel => exact ⟨i, by omega, by omega, by omega, rfl, rfl, HO2⟩
      · have AT := Lib.hid (fun w h => AtR_any v l i .none false (by rw [← HN.out]; omega) (by rw [if_neg hso]) (by rw [decide_eq_false hso]) (by rw [← HN.out]; omega) w h)
        have hfs := from_no (by rw [← HN.out]; omega) hso
        have HV := Lib.hid hfs
        clear hfs hso
        go_wp2_with fail
        refine (AT.out _ (H.out.below B)).mono ?_
        rintro e wa3 ⟨rfl, b⟩
        replace o1 := o1.below b; replace B := B.trans (b.mono B.size); clear b
        go_upto_region 7 with (fail)
        refine wp_gen (fun Wv => Bx Wv (wa3.heap.size) (69) (#[.int .i64 0, .int .i64 0, .int .i64 0, .int .i64 0, .bool false, .int .u64 0]) ∧ Below wa3.heap.size wa3 Wv) ⟨((Bx.at_ (by simp))), ((Below.refl _ wa3).alloc (by simp <;> omega) _)⟩ ?_
        rintro wa4 ⟨g2, b⟩
        replace o1 := o1.below b; replace B := B.trans (b.mono B.size); clear b
        have c_g2 := g2.cell; have f_g2 := g2.free; have a_g2 := fun o => (g2.alloc o).cell; have d_g2 := fun o o2 => ((g2.alloc o).alloc o2).cell; have e_g2 := fun o => (g2.alloc o).free
        obtain ⟨ad, ia, ca, fa, hb, hst⟩ := o1.at_ (k := i) (b := rgB l (i + 2) i) (rg_get (by rw [← HN.out]; omega))
        have hst2 := hst false
        rw [show false = (from_ l i).isSome by rw [HV.out]; rfl, HS.out] at hst2
        have HO : Hid (OwnBl (World.setCell _ ad (.bool false)) w.heap.size vS (rg l i) ∧ Below w.heap.size w (World.setCell _ ad (.bool false))) := Lib.hid (And.intro (by rw [show false = (from_ l i).isSome by rw [HV.out]; rfl]; exact hst2) (B.setCell (p := ad) hb (.bool false)))
        clear hst hst2
        go_upto_region 5 with (fail)
        refine wp_gen (fun V => OwnBl V w.heap.size vS (rg l i) ∧ Below w.heap.size w V) HO.out ?_
        clear HO ia ca fa hb o1 B g2 c_g2 f_g2 a_g2 d_g2 e_g2
        rintro V HO
        have HO2 := Lib.hid HO
        clear HO
        go_wp2
        go_roundg i
        case measure => omega
        case rel => exact ⟨i, by omega, by omega, by omega, rfl, rfl, HO2⟩
    · obtain rfl : j = 128 := by omega
      subst hgj
      have q1 : ((128 : Nat) : Int) - 2 = 126 := rfl
      rw [q1]
      have o1 := hh.out.1
      have B := hh.out.2
      obtain ⟨ad, ia, ca, fa, hb, -⟩ := o1.at_ (k := 128) (b := rgB l 128 128) (rg_get (by rw [← HN.out]; omega))
      have ia3 : ∀ W, (Instr.indexAt 170 vS (.int .i64 128)).run Tryz.prog W = .ok (.pointer (some ad)) W := ia
      have hv : rgB l 128 128 = r := by
        rw [HR.out.1]
        unfold rgB
        rw [Bool.eq_iff_iff, decide_eq_true_iff]
        exact ⟨fun h => h.2.2, fun h => ⟨by omega, by omega, h⟩⟩
      rw [hv] at ca
      have q3 : ¬ (N : Int) < 128 := by omega
      have q4 : decide (N < 128) = false := decide_eq_false (by omega)
      have q5 : ¬ N < 128 := by omega
      clear hv ia
      cases r
      · have hL : L = [] := by
          rw [HR.out.2]
          cases hf : from_ l 128 with
          | none => rfl
          | some M => have := HR.out.1; rw [hf] at this; simp at this
        subst hL
        go_wp2
        go_ret2
        exact ⟨_, rfl, OwnK.nil _ _, B⟩
      · have hf : from_ l 128 = some L := by
          cases hf : from_ l 128 with
          | none => have := HR.out.1; rw [hf] at this; simp at this
          | some M => have := HR.out.2; rw [hf] at this; rw [this]; rfl
        have HF := Lib.hid hf
        have HBB := Lib.hid B
        clear hf B o1 hh
        go_wp2
        go_loopg [1, 10] (N - 128) (fun g i xv wr => ∃ (q : Nat) (L0 : List Hb) (L1 : List Hb), q ≤ N ∧ g = N - q ∧ i = .int .i64 q ∧ Hid (OwnK wr w.heap.size xv L0 ∧ from_ l q = some L1 ∧ L = L0 ++ L1 ∧ 2 * L0.length ≤ q ∧ Below w.heap.size w wr))
        case atStart => exact ⟨128, [], L, by omega, rfl, rfl, Lib.hid ⟨OwnK.nil _ _, HF.out, rfl, by simp, HBB.out⟩⟩
        case round =>
          obtain ⟨q, L0, L1, hq, rfl, rfl, hh⟩ := hrel
          clear HBB
          by_cases hlt : q < N
          · have hfr := hh.out.2.1
            have hso : StOk l q := by
              by_cases hso : StOk l q
              · exact hso
              · rw [from_no (by rw [← HN.out]; exact hlt) hso] at hfr; cases hfr
            obtain ⟨b, hb⟩ : ∃ b, b = stand l q := ⟨_, rfl⟩
            have AT := Lib.hid (fun w h => AtR_any v l q b true (by rw [← HN.out]; exact hlt) (by rw [if_pos hso, hb]) (by rw [decide_eq_true hso]) (by rw [← HN.out]; omega) w h)
            have hsz := szN_ge hso
            have hbs : b.size = (szN l q : Int) := by rw [hb]; exact stand_size hso
            have hst := from_step (by rw [← HN.out]; exact hlt) hso
            rw [← hb] at hst
            obtain ⟨z, hz⟩ : ∃ z, z = szN l q := ⟨_, rfl⟩
            rw [← hz] at hsz hbs hst
            rw [← HN.out] at hsz
            obtain ⟨hz1, -, -, hz4, -⟩ := hsz
            rw [hst] at hfr
            obtain ⟨L2, hL2, hL12⟩ := Option.map_eq_some_iff.1 hfr
            have o1 := hh.out.1
            have B := hh.out.2.2.2.2
            have hl0 := hh.out.2.2.2.1
            have hLL := hh.out.2.2.1
            have hB0 := B.size
            have hwq : IntKind.i64.wrap ((q : Int) + b.size) = ((q + z : Nat) : Int) := by rw [hbs, show ((q + z : Nat) : Int) = (q : Int) + z by omega]; exact IntWalk.i64_in _ (by omega)
            have HZ := Lib.hid (And.intro hz1 (And.intro hz4 (And.intro hL2 (show L = L0 ++ [b] ++ L2 by rw [hLL, ← hL12]; simp))))
            clear hb hst hfr hz hbs hso hL2 hL12 hLL hz1 hz4
            go_wp2_with fail
            refine (AT.out _ (H.out.below B)).mono ?_
            rintro e wa5 ⟨rfl, b⟩
            replace o1 := o1.below b; replace B := B.trans (b.mono B.size); clear b
            have hne := own_fresh o1
            go_upto_region 13 with (fail)
            refine wp_gen (fun Wv => Bx Wv (wa5.heap.size) (69) (#[.int .i64 b.at_, .int .i64 b.size, .int .i64 b.kind, .int .i64 b.ty, .bool b.mark, .int .u64 b.next.toNat]) ∧ Below wa5.heap.size wa5 Wv) ⟨((Bx.at_ (by simp))), ((Below.refl _ wa5).alloc (by simp <;> omega) _)⟩ ?_
            rintro wa6 ⟨g2, b⟩
            replace o1 := o1.below b; replace B := B.trans (b.mono B.size); clear b
            have c_g2 := g2.cell; have f_g2 := g2.free; have a_g2 := fun o => (g2.alloc o).cell; have d_g2 := fun o o2 => ((g2.alloc o).alloc o2).cell; have e_g2 := fun o => (g2.alloc o).free
            clear f_g2 a_g2 d_g2 e_g2
            go_wp2_with (at_builtin; refine wpList_append (by rfl) rfl rfl rfl Tryz.underlying73 info_block rfl (by omega) (by exact own_below o1 ((Below.refl _ _).alloc (Nat.le_refl _) _)) (by exact lit_block b (by simp)) (bkL_one b) (by omega) (by omega) (by exact B.alloc B.size _) (Nat.le_refl _) ?_; intro v1 w3 o3 B3 g3; have c_4 := ((g2.alloc _).grown g3 hne).cell; clear c_g2)
            have o4 : OwnK w3 w.heap.size v1 (L0 ++ [b]) := OwnK.of o3 (tabB_snoc L0 b)
            have HO := Lib.hid (And.intro o4 B3)
            go_roundg (N - (q + z))
            case measure => have := HZ.out.1; omega
            case rel => exact ⟨q + z, L0 ++ [b], L2, by have := HZ.out.2.1; omega, rfl, rfl, Lib.hid ⟨HO.out.1, HZ.out.2.2.1, HZ.out.2.2.2, by have := HZ.out.1; simp only [List.length_append, List.length_cons, List.length_nil]; omega, HO.out.2⟩⟩
          · obtain rfl : q = N := by omega
            have hfr := hh.out.2.1
            rw [show from_ l q = some [] by rw [HN.out]; exact from_end] at hfr
            injection hfr with hfr
            have hL0 : L = L0 := by rw [hh.out.2.2.1, ← hfr, List.append_nil]
            subst hL0
            have o1 := hh.out.1
            have B := hh.out.2.2.2.2
            clear hfr
            go_wp2
            go_ret2
            exact ⟨_, rfl, o1, B⟩
set_option maxRecDepth 100000 in
set_option maxHeartbeats 2000000 in
theorem ParsedR_any (v : Value) (l : List UInt64) (hs : SizeOk l.length) (L : List Hb) (r : Bool) (hL : L = allL l) (hr : r = decide (allErr l = 0)) (w : World) (h : Words w v l) :
    Calls Tryz.prog 32 #[v] w fun e w' => ∃ x, e = .returned (.tuple #[x, .bool r]) ∧ OwnK w' w.heap.size x L ∧ Below w.heap.size w w' := by
  have B : Below w.heap.size w w := Below.refl _ _
  have H := Lib.hid h
  obtain ⟨L0, hL0⟩ : ∃ L0, L0 = (from_ l 128).getD [] := ⟨_, rfl⟩
  obtain ⟨r0, hr0⟩ : ∃ r0, r0 = (from_ l 128).isSome := ⟨_, rfl⟩
  have FT := Lib.hid (fun w h => FromR_any v l hs L0 r0 hL0 hr0 w h)
  have hre : r = (r0 && decide (¬ Adj L0)) := by
    rw [hr, hr0, hL0, allErr, if_pos hs]
    cases hf : from_ l 128 with
    | none => rw [parsed_none hf]; rfl
    | some M =>
      rw [parsed_some hf]
      by_cases ha : Adj M <;> simp [ha]
  have hLe : L = if r = true then L0 else [] := by
    rw [hL, allL, hr, hL0]
    by_cases h0 : allErr l = 0
    · rw [if_pos h0, if_pos (decide_eq_true h0)]
      have h1 := h0
      unfold allErr at h1
      rw [if_pos hs] at h1
      cases hf : from_ l 128 with
      | none => rw [parsed_none hf]
      | some M =>
        rw [parsed_some hf] at h1 ⊢
        by_cases ha : Adj M
        · rw [if_pos ha] at h1; simp at h1
        · rw [if_neg ha]
    · rw [if_neg h0, if_neg (by simpa using h0)]
  have HR := Lib.hid (And.intro hre hLe)
  have hnil : r0 = false → L0 = [] := fun e => by
    rw [hL0]
    rw [hr0] at e
    cases hf : from_ l 128 with
    | none => rfl
    | some M => rw [hf] at e; cases e
  have HE := Lib.hid hnil
  obtain ⟨N, hN⟩ : ∃ N, N = L0.length := ⟨_, rfl⟩
  have HN := Lib.hid hN
  clear hL hr hL0 hr0 h hs hre hLe hnil
  go_enter Tryz.func32, Tryz.ntmps32
  go_wp2_with fail
  refine (FT.out _ (H.out.below B)).mono ?_
  rintro e wa1 ⟨x1, rfl, o1, b⟩
  replace B := B.trans (b.mono B.size); clear b
  have lx := o1.rd.len
  have hlen := o1.rd.len_le
  rw [← hN] at lx hlen
  clear hN
  cases r0
  · have h0 := HE.out rfl
    have hN0 : N = 0 := by rw [HN.out, h0]; rfl
    have hr0 : r = false := by rw [HR.out.1]; rfl
    have hL0 : L = [] := by rw [HR.out.2, hr0]; rfl
    rw [hN0] at lx
    subst hr0; subst hL0
    clear h0 hN0
    go_wp2
    go_loopg [6, 5] 0 (fun g i rv wr => i = .int .i64 1 ∧ rv = .bool false ∧ wr = wa1)
    case atStart => exact ⟨rfl, rfl, rfl⟩
    case round =>
      obtain ⟨rfl, rfl, rfl⟩ := hrel
      go_wp2
      go_ret2
      exact ⟨_, rfl, OwnK.nil _ _, B⟩
  · go_wp2
    go_loopg [6, 5] N (fun g i rv wr => ∃ (j : Nat) (c : Bool), 1 ≤ j ∧ j ≤ N + 1 ∧ g = N + 1 - j ∧ i = .int .i64 j ∧ rv = .bool c ∧ wr = wa1 ∧ Hid ((c = true → NoAdj L0 j) ∧ (c = false → Adj L0)))
    case atStart => exact ⟨1, true, by omega, by omega, by omega, rfl, rfl, rfl, Lib.hid ⟨fun _ i a b h1 => by omega, fun e => (by cases e)⟩⟩
    case round =>
      obtain ⟨j, c, hj1, hj, rfl, rfl, rfl, rfl, hna⟩ := hrel
      by_cases hlt : j < N
      · obtain ⟨i, hij⟩ : ∃ i, j = i + 1 := ⟨j - 1, by omega⟩
        subst hij
        obtain ⟨bb, oo, s, ia, _, _, m0, _, _, _, hs, _⟩ := o1.rd.at_ (k := i + 1) (by rw [← HN.out]; exact hlt)
        obtain ⟨b2, o2, t, ia2, _, _, m1, _, _, _, ht, _⟩ := o1.rd.at_ (k := i) (by rw [← HN.out]; omega)
        have ia3 : ∀ W, (Instr.indexAt 73 x1 (.int .i64 ((i : Int) + 1))).run Tryz.prog W = .ok (.pointer (some ⟨bb, oo, none⟩)) W := ia
        have hw : IntKind.i64.wrap ((i : Int) + 1 - 1) = (i : Int) := by rw [show (i : Int) + 1 - 1 = (i : Int) by omega]; exact IntWalk.i64_in _ (by omega)
        have hw2 : IntKind.i64.wrap (i : Int) = (i : Int) := IntWalk.i64_in _ (by omega)
        by_cases hk : t.kind = 2 ∧ s.kind = 2
        · have ha := Lib.hid (adj_at ht.out hs.out hk.1 hk.2)
          rw [hk.2] at m0; rw [hk.1] at m1
          clear hk
          go_wp2
          go_roundg (N + 1 - (i + 1 + 1))
          case measure => omega
          case rel => exact ⟨i + 1 + 1, false, by omega, by omega, rfl, by go_num, rfl, rfl, Lib.hid ⟨fun e => (by cases e), fun _ => ha.out⟩⟩
        · have HNA : Hid ((c = true → NoAdj L0 (i + 1 + 1)) ∧ (c = false → Adj L0)) := Lib.hid ⟨fun e => noAdj_step (hna.out.1 e) (fun i' a b h1 h2 h3 => by
            obtain rfl : i' = i := by omega
            rw [ht.out] at h2; rw [hs.out] at h3
            injection h2 with h2; injection h3 with h3; subst h2; subst h3; exact hk), hna.out.2⟩
          by_cases hs2 : t.kind = 2
          · have ht2 : (s.kind == 2) = false := by rw [beq_eq_false_iff_ne]; exact fun e => hk ⟨hs2, e⟩
            rw [hs2] at m1
            clear hk hs2
            go_wp2
            go_roundg (N + 1 - (i + 1 + 1))
            case measure => omega
            case rel => exact ⟨i + 1 + 1, c, by omega, by omega, rfl, by go_num, rfl, rfl, HNA⟩
          · have ht2 : (t.kind == 2) = false := by rw [beq_eq_false_iff_ne]; exact hs2
            clear hk hs2
            go_wp2
            go_roundg (N + 1 - (i + 1 + 1))
            case measure => omega
            case rel => exact ⟨i + 1 + 1, c, by omega, by omega, rfl, by go_num, rfl, rfl, HNA⟩
      · have hge : N ≤ j := by omega
        cases c
        · have ha := hna.out.2 rfl
          have hr0 : r = false := by rw [HR.out.1]; simp [ha]
          have hL0 : L = [] := by rw [HR.out.2, hr0]; rfl
          subst hr0; subst hL0
          clear ha
          go_wp2
          go_ret2
          exact ⟨_, rfl, OwnK.nil _ _, B⟩
        · have ha : ¬ Adj L0 := fun ha => by
            obtain ⟨i, a, b, h1, h2, h3, h4⟩ := adj_iff.1 ha
            have hi := (List.getElem?_eq_some_iff.1 h2).1
            exact hna.out.1 rfl i a b (by have := HN.out; omega) h1 h2 ⟨h3, h4⟩
          have hr0 : r = true := by rw [HR.out.1]; simp [ha]
          have hL0 : L = L0 := by rw [HR.out.2, hr0]; rfl
          subst hr0; subst hL0
          clear ha
          go_wp2
          go_ret2
          exact ⟨_, rfl, o1, B⟩
end Go.Proofs.YtbfmdbeeiicabaaGreat
namespace Go.Proofs.YtbfmdbeeiicabaaGreat
open Go.RowKit Go.Maps
def i64Ok (a : Int) : Prop := -9223372036854775808 ≤ a ∧ a ≤ 9223372036854775807
theorem lit_wf {a : Int} (h : i64Ok a) : (Lit.int .i64 a).wf = true := by
  unfold i64Ok at h
  have e1 : IntKind.i64.min = -9223372036854775808 := by decide
  have e2 : IntKind.i64.max = 9223372036854775807 := by decide
  simp [Lit.wf, e1, e2]
  omega
/-- block g is a map of at most n entries that yields the literal f a at a, z0 where nothing stands -/
def MapL (P : Program) (k e : TypeId) (z0 : Lit) (W : World) (g n : Nat) (f : Int → Lit) : Prop :=
  ∃ D : DataW Unit, W.ownsMap P k (plainElem P e) g n D ∧ ∀ a, D.atKey (.int .i64 a) (.lit z0) = .lit (f a)
section
variable {P : Program} {k e : TypeId} {z0 : Lit} {W : World} {g n : Nat} {f : Int → Lit}
theorem MapL.made (W : World) : MapL P k e z0 (W.alloc (.map #[] 0)) W.heap.size 0 (fun _ => z0) :=
  ⟨.map [], World.ownsMap_made W P k _, fun a => rfl⟩
theorem MapL.lt (h : MapL P k e z0 W g n f) : g < W.heap.size := by obtain ⟨D, h1, _⟩ := h; exact h1.lt
theorem MapL.kept {W' : World} {row : Option Nat} (h : MapL P k e z0 W g n f) (hg : W.grownBy W' row) (hne : some g ≠ row) : MapL P k e z0 W' g n f := by
  obtain ⟨D, h1, h2⟩ := h; exact ⟨D, h1.kept hg hne, h2⟩
theorem MapL.below {W' : World} (h : MapL P k e z0 W g n f) (hb : Below W.heap.size W W') : MapL P k e z0 W' g n f := by
  obtain ⟨D, ⟨es, clock, hh, F, hs, hD⟩, h2⟩ := h
  exact ⟨D, ⟨es, clock, (hb.block g (Array.getElem?_eq_some_iff.1 hh).1).trans hh, F, hs, hD⟩, h2⟩
theorem MapL.mono {n' : Nat} (h : MapL P k e z0 W g n f) (hn : n ≤ n') : MapL P k e z0 W g n' f := by
  obtain ⟨D, h1, h2⟩ := h; exact ⟨D, h1.mono hn, h2⟩
/-- a store, as an equation on its run -/
theorem MapL.put {t : TypeId} (h : MapL P k e z0 W g n f) (hk : P.underlying k = some (.int .i64)) (ht : P.underlying t = some (.map k e)) (hn : n < maxLen) {a : Int} (ha : i64Ok a) {v : Value} {l : Lit} (hv : plainElem (H := Unit) P e v = some (.lit l, [])) :
    ∃ W', (Instr.mapUpdate t (.map (some g)) (.int .i64 a) v).run P W = .ok () W' ∧ MapL P k e z0 W' g (n + 1) (fun b => if b = a then l else f b) ∧ W.grownBy W' (some g) := by
  obtain ⟨D, h1, h2⟩ := h
  obtain ⟨W', r1, r2, r3⟩ := h1.update (int_keyed hk) ht hn (keyOf_int_mk hk (lit_wf ha)) hv
  refine ⟨W', r1, ⟨_, r2, fun b => ?_⟩, r3⟩
  by_cases hb : b = a
  · subst hb
    show _ = DataW.lit (if b = b then l else f b)
    rw [if_pos rfl]
    exact atKey_put_same (h1.isMap) ((int_keyed hk).key (keyOf_int_mk hk (lit_wf ha))) _ _
  · show _ = DataW.lit (if b = a then l else f b)
    rw [if_neg hb, atKey_put_other (by intro e; injection e with _ e; exact hb e), h2]
theorem plainElem_bool_inv {v : Value} {b : Bool} {ps : List MemPlace} (he : P.underlying e = some .bool) (h : plainElem (H := Unit) P e v = some (.lit (.bool b), ps)) : v = .bool b := by
  unfold plainElem at h
  rw [he] at h
  cases v <;> simp at h
  rw [h.1]
/-- a look-up -/
theorem MapL.lookB {t : TypeId} {S : Int → Bool} (h : MapL P k e (.bool false) W g n (fun a => .bool (S a))) (hk : P.underlying k = some (.int .i64)) (ht : P.underlying t = some (.map k e)) (he : P.underlying e = some .bool) (hz : (zeroValue e).run P W = .ok (.bool false) W) {a : Int} (ha : i64Ok a) :
    (Instr.lookup t (.map (some g)) (.int .i64 a) false).run P W = .ok (.bool (S a)) W := by
  obtain ⟨D, h1, h2⟩ := h
  obtain ⟨v, ps, hrun, hv⟩ := h1.lookup (int_keyed hk) ht hz (plainElem_bool he false) (keyOf_int_mk hk (lit_wf ha))
  rw [h2] at hv
  rw [hrun, plainElem_bool_inv he hv]
/-- a store at the operation, for the walk -/
theorem wpList_mapPut {ops : Array Oper} {rest : List Oper} {o : Oper} {a : Act} {Q : Exit → Act → World → Prop} (hg : o.guard = none) {m x v : Operand} {t : TypeId} (hop : o.op = Op.mapUpdate t m x v) (hk : P.underlying k = some (.int .i64)) (ht : P.underlying t = some (.map k e))
    (hm : a.eval m = .map (some g)) {key : Int} {val : Value} {l : Lit} (hx : a.eval x = .int .i64 key) (hv : a.eval v = val) (h : MapL P k e z0 W g n f) (hn : n < maxLen) (hkey : i64Ok key) (hval : plainElem (H := Unit) P e val = some (.lit l, []))
    (hK : ∀ W', MapL P k e z0 W' g (n + 1) (fun b => if b = key then l else f b) → W.grownBy W' (some g) → wpList P ops Q rest (a.put o.dst undef) W') : wpList P ops Q (o :: rest) a W := by
  refine wpList_plain hg fun K' hK' => ?_
  obtain ⟨W', hrun, r1, r2⟩ := h.put hk ht hn hkey hval
  unfold Oper.wp
  simp [execOp, hop, hm, hx, hv, hrun, Result.andThen]
  exact hK' _ _ (hK W' r1 r2)
end
end Go.Proofs.YtbfmdbeeiicabaaGreat
namespace Go.Proofs.YtbfmdbeeiicabaaGreat
open Go.RowKit
def u8 (x : UInt8) : Value := .int .u8 x.toNat
def Byts (w : World) (v : Value) (l : List UInt8) : Prop := Rd w 1 v l.length (l.map u8)
def OwnB (w : World) (base E : Nat) (v : Value) (l : List UInt8) : Prop := w.ownsRow base E 1 v l.length (l.map u8)
theorem one_u8 : (Tryz.prog.info? 5).map (·.size) = some 1 := by kernel_rfl
theorem info_u8 : (Tryz.prog.info? 5).map (fun i => (i.zero, i.size, i.bytes)) = some (some (.int .u8 0), 1, 1) := by kernel_rfl
theorem one_u8s (l : List UInt8) : ∀ u ∈ l.map u8, u.oneCell' = true := by
  intro u hu; obtain ⟨x, _, rfl⟩ := List.mem_map.1 hu; rfl
section
variable {P : Program} {w w' : World} {v : Value} {l : List UInt8} {base E : Nat}
theorem OwnB.rd (h : OwnB w base E v l) : Byts w v l := Rd.of_own h
theorem Byts.below (h : Byts w v l) (hb : Below w.heap.size w w') : Byts w' v l := Rd.below h hb
theorem Byts.alloc (h : Byts w v l) (o : Obj) : Byts (w.alloc o) v l := Rd.alloc h o
theorem OwnB.below (h : OwnB w base E v l) (hb : Below w.heap.size w w') : OwnB w' base E v l := own_below h hb
theorem OwnB.nil (w : World) (base E : Nat) : OwnB w base E (.slice none 0 0) [] := World.ownsRow_nil w base E 1
theorem Byts.nil (w : World) : Byts w (.slice none 0 0) [] := Rd.nil w 1
theorem OwnB.of {n : Nat} {xs : List Value} (h : w.ownsRow base E 1 v n xs) (hx : xs = l.map u8) : OwnB w base E v l := by
  subst hx
  have hn : n = l.length := by have := h.1; simp at this; omega
  subst hn; exact h
theorem Byts.at_ {t e : TypeId} (h : Byts w v l) (ht : P.underlying t = some (.slice e)) (hi : (P.info? e).map (·.size) = some 1) {k : Nat} (hk : k < l.length) :
    ∃ ad x, (∀ W, (Instr.indexAt t v (.int .i64 (k : Int))).run P W = .ok (.pointer (some ad)) W) ∧ w.cell? ad = some (.int .u8 (UInt8.toNat x)) ∧ Hid (l[k]? = some x) :=
  ⟨_, l[k], fun W => Rd.ixN h ht hi hk W, by rw [Nat.mul_one]; exact Rd.cell h (by simp [hk]; rfl), by unfold Hid; simp [hk]⟩
end
end Go.Proofs.YtbfmdbeeiicabaaGreat
namespace Go.Proofs.YtbfmdbeeiicabaaGreat.L13
open L05
def kErr (l : List UInt8) : Int := if 8 < l.length then 4 else if ∀ k ∈ l, 1 ≤ k.toNat ∧ k.toNat ≤ 3 then 0 else 8
def kSize (l : List UInt8) : Int := if kErr l = 0 then 2 + ((l.length + 1) / 2 * 2 : Nat) else 0
/-- digits to the base 4, the first one the lowest -/
def fN : List UInt8 → Nat
  | [] => 0
  | k :: l => k.toNat + 4 * fN l
def firstN (l : List UInt8) : Nat := fN l * 256 + l.length
def w0 (l : List UInt8) : UInt64 := if kErr l = 0 then UInt64.ofNat (firstN l) else 0
def w1 (l : List UInt8) : UInt64 := if kErr l = 0 then sum [w0 l] else 0
def nOf (a : UInt64) : Nat := a.toNat % 256
def dig (a : UInt64) (n : Nat) : List UInt8 := (List.range n).map fun i => UInt8.ofNat (a.toNat / 256 / 4 ^ i % 4)
def RdOk (a b : UInt64) : Prop := nOf a ≤ 8 ∧ kErr (dig a (nOf a)) = 0 ∧ w0 (dig a (nOf a)) = a ∧ w1 (dig a (nOf a)) = b
instance (a b : UInt64) : Decidable (RdOk a b) := inferInstanceAs (Decidable (_ ∧ _ ∧ _ ∧ _))
def rdL (a b : UInt64) : List UInt8 := if RdOk a b then dig a (nOf a) else []
def rdE (a b : UInt64) : Int := if RdOk a b then 0 else 50
theorem kErr_ok {l : List UInt8} (h : kErr l = 0) : l.length ≤ 8 ∧ ∀ k ∈ l, 1 ≤ k.toNat ∧ k.toNat ≤ 3 := by
  unfold kErr at h
  split at h
  · omega
  · split at h
    · exact ⟨by omega, by assumption⟩
    · omega
theorem kErr_of {l : List UInt8} (h : l.length ≤ 8) (h2 : ∀ k ∈ l, 1 ≤ k.toNat ∧ k.toNat ≤ 3) : kErr l = 0 := by
  unfold kErr
  rw [if_neg (by omega), if_pos h2]
theorem kErr_many {l : List UInt8} (h : 8 < l.length) : kErr l = 4 := if_pos h
theorem kErr_bad {l : List UInt8} (h : l.length ≤ 8) {k : Nat} {x : UInt8} (hx : l[k]? = some x) (hb : ¬ (1 ≤ x.toNat ∧ x.toNat ≤ 3)) : kErr l = 8 := by
  unfold kErr
  rw [if_neg (by omega), if_neg]
  intro hall
  exact hb (hall x (List.mem_of_getElem? hx))
theorem fN_snoc : ∀ (l : List UInt8) (k : UInt8), fN (l ++ [k]) = fN l + k.toNat * 4 ^ l.length
  | [], k => by simp [fN]
  | x :: l, k => by
    rw [List.cons_append, fN, fN_snoc l k, fN, List.length_cons, Nat.pow_succ]
    have : k.toNat * (4 ^ l.length * 4) = 4 * (k.toNat * 4 ^ l.length) := by rw [← Nat.mul_assoc, Nat.mul_comm]
    omega
theorem fN_lt : ∀ (l : List UInt8), (∀ k ∈ l, k.toNat ≤ 3) → fN l < 4 ^ l.length
  | [], _ => by simp [fN]
  | x :: l, h => by
    have h1 := fN_lt l fun k hk => h k (List.mem_cons_of_mem _ hk)
    have h2 := h x List.mem_cons_self
    rw [fN, List.length_cons, Nat.pow_succ]
    omega
theorem fN_take {l : List UInt8} {k : Nat} {x : UInt8} (hx : l[k]? = some x) : fN (l.take (k + 1)) = fN (l.take k) + x.toNat * 4 ^ k := by
  have hk : k < l.length := (List.getElem?_eq_some_iff.1 hx).1
  rw [List.take_add_one, hx]
  show fN (l.take k ++ [x]) = _
  rw [fN_snoc, List.length_take, Nat.min_eq_left (by omega)]
theorem pow4_le {n : Nat} (h : n ≤ 8) : 4 ^ n ≤ 65536 := Nat.pow_le_pow_right (by omega) h
theorem firstN_lt {l : List UInt8} (h : kErr l = 0) : firstN l < 16777216 := by
  obtain ⟨h1, h2⟩ := kErr_ok h
  have h3 := fN_lt l fun k hk => (h2 k hk).2
  have h4 := pow4_le h1
  unfold firstN
  omega
theorem w0_nat {l : List UInt8} (h : kErr l = 0) : (w0 l).toNat = firstN l := by
  rw [w0, if_pos h, UInt64.toNat_ofNat']
  have := firstN_lt h
  exact Nat.mod_eq_of_lt (by omega)
theorem dig_succ (a : UInt64) (n : Nat) : dig a (n + 1) = dig a n ++ [UInt8.ofNat (a.toNat / 256 / 4 ^ n % 4)] := by
  unfold dig
  rw [List.range_succ, List.map_append]; rfl
theorem dig_len (a : UInt64) (n : Nat) : (dig a n).length = n := by simp [dig]
theorem fN_dig (a : UInt64) : ∀ n, fN (dig a n) = a.toNat / 256 % 4 ^ n
  | 0 => by simp [dig, fN, Nat.mod_one]
  | n + 1 => by
    have e : a.toNat / 256 / 4 ^ n % 4 % 256 = a.toNat / 256 / 4 ^ n % 4 := by omega
    have e2 := Nat.mod_pow_succ (b := 4) (k := n) (x := a.toNat / 256)
    rw [dig_succ, fN_snoc, fN_dig a n, dig_len, UInt8.toNat_ofNat', e2]
    rw [show (2 : Nat) ^ 8 = 256 from rfl, e, Nat.mul_comm (4 ^ n)]
/-- what the reference asks of the first word -/
theorem w0_dig (a : UInt64) (h : nOf a ≤ 8) (hk : kErr (dig a (nOf a)) = 0) : w0 (dig a (nOf a)) = a ↔ a.toNat / 256 / 4 ^ nOf a = 0 := by
  have hn := w0_nat hk
  have e : firstN (dig a (nOf a)) = a.toNat / 256 % 4 ^ nOf a * 256 + nOf a := by rw [firstN, fN_dig, dig_len]
  have ha : a.toNat = a.toNat / 256 * 256 + nOf a := by unfold nOf; omega
  constructor
  · intro h1
    rw [h1, e] at hn
    have h2 : a.toNat / 256 = a.toNat / 256 % 4 ^ nOf a := by omega
    rw [h2]
    exact Nat.div_eq_of_lt (Nat.mod_lt _ (Nat.pow_pos (by omega)))
  · intro h1
    have h2 : a.toNat / 256 < 4 ^ nOf a := by
      rcases Nat.lt_or_ge (a.toNat / 256) (4 ^ nOf a) with h | h
      · exact h
      · have := Nat.div_pos h (Nat.pow_pos (by omega)); omega
    apply UInt64.toNat_inj.1
    rw [hn, e, Nat.mod_eq_of_lt h2]
    exact ha.symm
end Go.Proofs.YtbfmdbeeiicabaaGreat.L13
namespace Go.Proofs.YtbfmdbeeiicabaaGreat
open Go.RowKit L02 L05 L13
set_option maxHeartbeats 600000 in
theorem KCheck_any (v : Value) (l : List UInt8) (r : Int) (hr : r = kErr l) (w : World) (h : Byts w v l) : Calls Tryz.prog 83 #[v] w fun e w' => e = .returned (.int .i64 r) ∧ w = w' := by
  have l1 := Rd.len h Tryz.underlying94
  obtain ⟨N, hN⟩ : ∃ N, N = l.length := ⟨_, rfl⟩
  rw [← hN] at l1
  have HN := Lib.hid hN; have H := Lib.hid h; have HR := Lib.hid hr; clear hN h hr
  by_cases hbig : 8 < N
  · go_enter Tryz.func83, Tryz.ntmps83
    go_wp2
    go_ret
    exact ⟨ret_int (by rw [HR.out, kErr_many (by have := HN.out; omega)]), rfl⟩
  · have hs : N ≤ 8 := by omega
    clear hbig
    go_enter Tryz.func83, Tryz.ntmps83
    go_wp2
    go_loop [10] (fun i => ∃ k : Nat, k ≤ N ∧ i = .int .i64 k ∧ Hid (∀ x ∈ l.take k, 1 ≤ x.toNat ∧ x.toNat ≤ 3)) (fun i => N - (intOf i).toNat)
    case atStart => exact ⟨0, Nat.zero_le _, rfl, Lib.hid (by simp)⟩
    case round =>
      obtain ⟨k, hk, rfl, hh⟩ := hrel
      by_cases hlt : k < N
      · obtain ⟨ad, x, ia, ca, hx⟩ := H.out.at_ (P := Tryz.prog) Tryz.underlying94 one_u8 (k := k) (by have := HN.out; omega)
        by_cases hg : 1 ≤ x.toNat ∧ x.toNat ≤ 3
        · obtain ⟨h1, h2⟩ := hg
          go_wp2
          go_round
          case rel =>
            refine ⟨k + 1, by omega, by go_num, Lib.hid ?_⟩
            intro y hy
            rw [List.take_add_one, hx.out] at hy
            rcases List.mem_append.1 hy with hy | hy
            · exact hh.out y hy
            · simp at hy; subst hy; exact ⟨h1, h2⟩
          case measure => simp [intOf]; omega
        · have hcase : x.toNat < 1 ∨ 1 ≤ x.toNat ∧ 3 < x.toNat := by omega
          have hb := kErr_bad (by have := HN.out; omega) hx.out hg
          have HB := Lib.hid hb; clear hb hg
          rcases hcase with h1 | ⟨h1, h2⟩
          all_goals
            go_wp2
            go_ret
            exact ⟨ret_int (by rw [HR.out, HB.out]), rfl⟩
      · obtain rfl : k = N := by omega
        go_wp2
        go_ret
        refine ⟨ret_int ?_, rfl⟩
        rw [HR.out, kErr_of (by have := HN.out; omega)]
        have := hh.out
        rw [List.take_of_length_le (by have := HN.out; omega)] at this
        exact this
set_option maxHeartbeats 600000 in
theorem KCheckR_any (v : Value) (l : List UInt8) (r : Int) (hr : r = kErr l) (w : World) (h : Byts w v l) : Calls Tryz.prog 139 #[v] w fun e w' => e = .returned (.int .i64 r) ∧ w = w' := by
  have l1 := Rd.len h Tryz.underlying94
  obtain ⟨N, hN⟩ : ∃ N, N = l.length := ⟨_, rfl⟩
  rw [← hN] at l1
  have HN := Lib.hid hN; have H := Lib.hid h; have HR := Lib.hid hr; clear hN h hr
  by_cases hbig : 8 < N
  · go_enter Tryz.func139, Tryz.ntmps139
    go_wp2
    go_ret
    exact ⟨ret_int (by rw [HR.out, kErr_many (by have := HN.out; omega)]), rfl⟩
  · have hs : N ≤ 8 := by omega
    clear hbig
    go_enter Tryz.func139, Tryz.ntmps139
    go_wp2
    go_loop [3] (fun i => ∃ k : Nat, k ≤ N ∧ i = .int .i64 k ∧ Hid (∀ x ∈ l.take k, 1 ≤ x.toNat ∧ x.toNat ≤ 3)) (fun i => N - (intOf i).toNat)
    case atStart => exact ⟨0, Nat.zero_le _, rfl, Lib.hid (by simp)⟩
    case round =>
      obtain ⟨k, hk, rfl, hh⟩ := hrel
      by_cases hlt : k < N
      · obtain ⟨ad, x, ia, ca, hx⟩ := H.out.at_ (P := Tryz.prog) Tryz.underlying94 one_u8 (k := k) (by have := HN.out; omega)
        by_cases hg : 1 ≤ x.toNat ∧ x.toNat ≤ 3
        · obtain ⟨h1, h2⟩ := hg
          have e0 : ((x.toNat : Int) == 0) = false := by rw [beq_eq_false_iff_ne]; omega
          go_wp2
          go_round
          case rel =>
            refine ⟨k + 1, by omega, by go_num, Lib.hid ?_⟩
            intro y hy
            rw [List.take_add_one, hx.out] at hy
            rcases List.mem_append.1 hy with hy | hy
            · exact hh.out y hy
            · simp at hy; subst hy; exact ⟨h1, h2⟩
          case measure => simp [intOf]; omega
        · have hcase : ((x.toNat : Int) == 0) = true ∨ ((x.toNat : Int) == 0) = false ∧ 3 < x.toNat := by
            by_cases h0 : x.toNat = 0
            · exact .inl (by rw [beq_iff_eq]; omega)
            · exact .inr ⟨by rw [beq_eq_false_iff_ne]; omega, by omega⟩
          have hb := kErr_bad (by have := HN.out; omega) hx.out hg
          have HB := Lib.hid hb; clear hb hg
          rcases hcase with h1 | ⟨h1, h2⟩
          all_goals
            go_wp2
            go_ret
            exact ⟨ret_int (by rw [HR.out, HB.out]), rfl⟩
      · obtain rfl : k = N := by omega
        go_wp2
        go_ret
        refine ⟨ret_int ?_, rfl⟩
        rw [HR.out, kErr_of (by have := HN.out; omega)]
        have := hh.out
        rw [List.take_of_length_le (by have := HN.out; omega)] at this
        exact this
theorem kErr_len {l : List UInt8} (h : kErr l = 0) : l.length ≤ 8 := (kErr_ok h).1
set_option maxHeartbeats 600000 in
theorem KSize_any (v : Value) (l : List UInt8) (n r : Int) (hn : n = kSize l) (hr : r = kErr l) (w : World) (h : Byts w v l) : Calls Tryz.prog 50 #[v] w fun e w' => e = .returned (.tuple #[.int .i64 n, .int .i64 r]) ∧ w = w' := by
  have l1 := Rd.len h Tryz.underlying94
  obtain ⟨N, hN⟩ : ∃ N, N = l.length := ⟨_, rfl⟩
  rw [← hN] at l1
  have CT := fun w h => KCheck_any v l r hr w h
  have HC := Lib.hid CT; have H := Lib.hid h; clear CT h
  by_cases h0 : kErr l = 0
  · have hs : N ≤ 8 := by rw [hN]; exact kErr_len h0
    have hk : n = 2 + ((N + 1) / 2 * 2 : Nat) := by rw [hn, kSize, if_pos h0, hN]
    rw [h0] at hr
    have HK := Lib.hid hk
    subst hr
    clear hn h0 hN hk
    go_enter Tryz.func50, Tryz.ntmps50
    go_wp2_with fail
    refine (HC.out _ H.out).mono ?_
    rintro e w' ⟨rfl, rfl⟩
    go_wp2
    go_ret2
    exact ⟨by rw [HK.out]; exact congrArg (fun z => Ending.returned (.tuple #[.int .i64 z, .int .i64 0])) (by omega), rfl⟩
  · have hne : (r != 0) = true := by rw [bne_iff_ne, hr]; exact h0
    have hk : n = 0 := by rw [hn, kSize, if_neg h0]
    subst hk
    clear hn h0 hN hr
    go_enter Tryz.func50, Tryz.ntmps50
    go_wp2_with fail
    refine (HC.out _ H.out).mono ?_
    rintro e w' ⟨rfl, rfl⟩
    go_wp2
    go_ret2
    exact ⟨rfl, rfl⟩
theorem WordsR_any (n m : Int) (hn : 0 ≤ n ∧ n ≤ 1000) (hm : m = n + n % 2 + 2) (w : World) : Calls Tryz.prog 59 #[.int .i64 n] w fun e w' => e = .returned (.int .i64 m) ∧ w = w' := by
  obtain ⟨h1, h2⟩ := hn
  have HM := Lib.hid hm; clear hm
  by_cases hp : n % 2 = 1
  all_goals
    have hq : (n % 2 == 1) = true ∨ (n % 2 == 1) = false := by cases (n % 2 == 1) <;> simp
    have HP := Lib.hid hp; clear hp
    go_enter Tryz.func59, Tryz.ntmps59
    rcases hq with hq | hq
    all_goals
      go_wp2
      go_ret
      refine ⟨ret_int ?_, rfl⟩
      have h3 := HM.out; have h4 := HP.out
      simp only [beq_iff_eq, beq_eq_false_iff_ne, ne_eq] at hq
      omega
end Go.Proofs.YtbfmdbeeiicabaaGreat
namespace Go.Proofs.YtbfmdbeeiicabaaGreat
open Go.RowKit L02 L05 L13
theorem Of_r (v : Value) (l : List UInt64) (x : UInt64) (hx : x = sum l) (w : World) (h : Words w v l) (hl : l.length ≤ 2048) :
    Calls Tryz.prog 119 #[v] w fun e w' => e = .returned (.tuple #[.int .u64 x.toNat, .int .i64 0]) ∧ Below w.heap.size w w' := by
  subst hx; exact Of_any v l w h hl
theorem SumR_r (v : Value) (l : List UInt64) (x : UInt64) (hx : x = sum l) (w : World) (h : Words w v l) (hl : l.length ≤ 2100) :
    Calls Tryz.prog 117 #[v] w fun e w' => e = .returned (.int .u64 x.toNat) ∧ Below w.heap.size w w' := by
  subst hx; exact SumR_any v l w h hl
theorem lit_word {w : World} {e n : Nat} (x : UInt64) (hn : w.heap.size = n) : Words (w.alloc (.cells #[.int .u64 x.toNat] e)) (.slice (some ⟨n, 0, none⟩) 1 1) [x] := by
  subst hn; exact lit_words [x] rfl rfl (by simp)
theorem or_digit {l : List UInt8} {k z N : Nat} {x : UInt8} (h0 : kErr l = 0) (hN : N = l.length) (hx : l[k]? = some x) (hz : z = fN (l.take k) * 256 + N) :
    bits .or .u64 (z : Int) (IntKind.u64.wrap ((x.toNat : Int) * 2 ^ (8 + 2 * k))) = ((fN (l.take (k + 1)) * 256 + N : Nat) : Int) := by
  obtain ⟨h1, h2⟩ := kErr_ok h0
  have hk : k < l.length := (List.getElem?_eq_some_iff.1 hx).1
  have hlt := fN_lt (l.take k) fun y hy => (h2 y (List.mem_of_mem_take hy)).2
  rw [List.length_take, Nat.min_eq_left (by omega)] at hlt
  have e4 : (2 : Nat) ^ (8 + 2 * k) = 4 ^ k * 256 := by rw [Nat.pow_add, Nat.pow_mul, Nat.mul_comm]
  have hp : 4 ^ k ≤ 4 ^ 8 := Nat.pow_le_pow_right (by omega) (by omega)
  have hx3 := (h2 x (List.mem_of_getElem? hx)).2
  have e1 : ((x.toNat : Int) * 2 ^ (8 + 2 * k)) = ((2 ^ (8 + 2 * k) * x.toNat : Nat) : Int) := by
    rw [Int.natCast_mul, Int.natCast_pow, Int.mul_comm]; rfl
  have hb : 2 ^ (8 + 2 * k) * x.toNat ≤ 4 ^ 8 * 256 * 3 := by
    rw [e4]; exact Nat.mul_le_mul (Nat.mul_le_mul_right _ hp) hx3
  simp only [show (4 : Nat) ^ 8 = 65536 from rfl] at hb hp
  have hzl : z < 2 ^ (8 + 2 * k) := by rw [e4]; omega
  have ew : IntKind.u64.wrap ((2 ^ (8 + 2 * k) * x.toNat : Nat) : Int) = ((2 ^ (8 + 2 * k) * x.toNat : Nat) : Int) := by
    rw [wrap_u64]
    generalize 2 ^ (8 + 2 * k) * x.toNat = q at hb
    omega
  rw [e1, ew, or_int (8 + 2 * k) x.toNat (by omega) (by exact_mod_cast hzl) rfl (by omega) (by generalize 2 ^ (8 + 2 * k) * x.toNat = q at hb; omega)]
  rw [fN_take hx, hz, e4]
  have : 4 ^ k * 256 * x.toNat = x.toNat * 4 ^ k * 256 := by rw [Nat.mul_comm, Nat.mul_assoc]
  omega
set_option maxHeartbeats 1000000 in
theorem KWrite_any (v : Value) (l : List UInt8) (a b : UInt64) (r : Int) (ha : a = w0 l) (hb : b = w1 l) (hr : r = kErr l) (w : World) (h : Byts w v l) :
    Calls Tryz.prog 99 #[v] w fun e w' => e = .returned (.tuple #[.agg #[.int .u64 a.toNat, .int .u64 b.toNat], .int .i64 r]) ∧ Below w.heap.size w w' := by
  have B : Below w.heap.size w w := Below.refl _ _
  have l1 := Rd.len h Tryz.underlying94
  obtain ⟨N, hN⟩ : ∃ N, N = l.length := ⟨_, rfl⟩
  rw [← hN] at l1
  have CT := fun w h => KCheck_any v l r hr w h
  have HC := Lib.hid CT; have H := Lib.hid h; clear CT h
  by_cases h0 : kErr l = 0
  · have hs : N ≤ 8 := by rw [hN]; exact kErr_len h0
    rw [h0] at hr
    subst hr
    have HN := Lib.hid hN; have H0 := Lib.hid h0
    have an : a.toNat = firstN l := by rw [ha]; exact w0_nat h0
    have hb' : b = sum [a] := by rw [hb, w1, if_pos h0, ha]
    have HAN := Lib.hid an; have HB := Lib.hid hb'
    clear hN h0 ha hb an hb'
    go_enter Tryz.func99, Tryz.ntmps99
    go_upto_region 1 with (fail)
    refine wp_gen (fun Wv => Bx Wv (w.heap.size) (174) (#[.int .u64 0, .int .u64 0]) ∧ Below w.heap.size w Wv) ⟨((Bx.at_ (by simp))), ((Below.refl _ w).alloc (by simp <;> omega) _)⟩ ?_
    rintro w' ⟨g2, b⟩
    replace B := B.trans (b.mono B.size); clear b
    have c_g2 := g2.cell; have f_g2 := g2.free; have a_g2 := fun o => (g2.alloc o).cell; have d_g2 := fun o o2 => ((g2.alloc o).alloc o2).cell; have e_g2 := fun o => (g2.alloc o).free
    go_wp2_with fail
    refine (HC.out _ (H.out.below B)).mono ?_
    rintro e w2 ⟨rfl, rfl⟩
    obtain ⟨w3, hw3⟩ : ∃ w3, w3 = w' := ⟨_, rfl⟩
    subst hw3
    go_wp2
    have HG := Lib.hid g2; have HBB := Lib.hid B; have HL := Lib.hid (H.out.below B)
    clear c_g2 f_g2 a_g2 d_g2 e_g2 g2 B
    go_loop [5, 21] (fun y i => ∃ k z : Nat, k ≤ N ∧ i = .int .i64 k ∧ y = .int .u64 (z : Int) ∧ Hid (z = fN (l.take k) * 256 + N)) (fun _ i => N - (intOf i).toNat)
    case atStart => exact ⟨0, N, Nat.zero_le _, rfl, by simp, Lib.hid (by simp [fN])⟩
    case round =>
      obtain ⟨k, z, hk, rfl, rfl, hz⟩ := hrel
      by_cases hlt : k < N
      · obtain ⟨ad, x, ia, ca, hx⟩ := HL.out.at_ (P := Tryz.prog) Tryz.underlying94 one_u8 (k := k) (by have := HN.out; omega)
        have hxl := x.toNat_lt
        go_wp2
        refine ⟨⟨k + 1, fN (l.take (k + 1)) * 256 + N, by omega, by go_num, ?_, Lib.hid rfl⟩, ?_⟩
        · rw [or_digit H0.out HN.out hx.out hz.out]
        · simp [intOf]; omega
      · obtain rfl : k = N := by omega
        have hza : z = a.toNat := by rw [hz.out, HAN.out, firstN, HN.out, List.take_length]
        subst hza
        have OT := fun v w h => Of_r v [a] b HB.out w h (by simp)
        have HO := Lib.hid OT; clear OT
        go_wp2_with fail
        refine (HO.out _ _ (lit_word a rfl)).mono ?_
        rintro e w4 ⟨rfl, bb⟩
        have g2 := HG.out.below ((Below.refl _ _).alloc (Nat.le_refl _) (.cells #[.int .u64 a.toNat] 40))
        replace g2 := g2.below bb
        have B := (HBB.out.alloc HBB.out.size (.cells #[.int .u64 a.toNat] 40)).trans (bb.mono (Nat.le_trans HBB.out.size (by simp)))
        have k2 := g2.cell; have l2 := g2.free
        clear bb g2
        go_wp2
        refine bodyPost_ret (v := .tuple #[.agg #[.int .u64 a.toNat, .int .u64 b.toNat], .int .i64 0]) (by simp [results, Tryz.results99, go_sem, k2, l2]) rfl ⟨rfl, ?_⟩
        (repeat (first | refine Below.setCell ?_ (by first | exact Nat.le_refl _ | (simp <;> omega)) _ | refine Below.alloc ?_ (by first | exact B.size | (have := B.size; simp <;> omega)) _)); exact B
  · have hne : (r != 0) = true := by rw [bne_iff_ne, hr]; exact h0
    have ha0 : a = 0 := by rw [ha, w0, if_neg h0]
    have hb0 : b = 0 := by rw [hb, w1, if_neg h0]
    subst ha0 hb0
    clear ha hb hr h0 hN
    go_enter Tryz.func99, Tryz.ntmps99
    go_upto_region 1 with (fail)
    refine wp_gen (fun Wv => Bx Wv (w.heap.size) (174) (#[.int .u64 0, .int .u64 0]) ∧ Below w.heap.size w Wv) ⟨((Bx.at_ (by simp))), ((Below.refl _ w).alloc (by simp <;> omega) _)⟩ ?_
    rintro w' ⟨g2, b⟩
    replace B := B.trans (b.mono B.size); clear b
    have c_g2 := g2.cell; have f_g2 := g2.free; have a_g2 := fun o => (g2.alloc o).cell; have d_g2 := fun o o2 => ((g2.alloc o).alloc o2).cell; have e_g2 := fun o => (g2.alloc o).free
    go_wp2_with fail
    refine (HC.out _ (H.out.below B)).mono ?_
    rintro e w2 ⟨rfl, rfl⟩
    go_wp2
    refine bodyPost_ret (v := .tuple #[.agg #[.int .u64 0, .int .u64 0], .int .i64 r]) (by simp [results, Tryz.results99, go_sem, c_g2, f_g2, a_g2, e_g2]) rfl ?_
    refine ⟨rfl, ?_⟩
    (repeat (first | refine Below.setCell ?_ (by first | exact Nat.le_refl _ | (simp <;> omega)) _ | refine Below.alloc ?_ (by first | exact B.size | (have := B.size; simp <;> omega)) _)); exact B
end Go.Proofs.YtbfmdbeeiicabaaGreat
namespace Go.Proofs.YtbfmdbeeiicabaaGreat
open Go.RowKit
section
variable {P : Program}
theorem run_eqItems_words (d : Nat) {e : TypeId} (he : P.underlying e = some (.int .u64)) (hp : ∀ (X : Array Value) (j : Nat) (u : Value) (w : World), X[j]? = some u → (part e X j).run P w = .ok u w) :
    ∀ (m k : Nat) (l1 l2 : List UInt64) (w : World), k + m ≤ l1.length → k + m ≤ l2.length →
    (Op.eqItems (d + 1) e 1 (l1.map u64).toArray (l2.map u64).toArray (List.range' k m)).run P w = .ok (decide ((l1.drop k).take m = (l2.drop k).take m)) w
  | 0, k, l1, l2, w, _, _ => by simp [Op.eqItems]
  | m + 1, k, l1, l2, w, h1, h2 => by
    have e1 : (l1.map u64).toArray[k]? = some (u64 (l1[k]'(by omega))) := by simp [show k < l1.length by omega]
    have e2 : (l2.map u64).toArray[k]? = some (u64 (l2[k]'(by omega))) := by simp [show k < l2.length by omega]
    have ih := run_eqItems_words d he hp m (k + 1) l1 l2 w (by omega) (by omega)
    rw [List.range'_succ]
    simp only [Op.eqItems, Nat.mul_one, Sem.run_bind, hp _ _ _ _ e1, hp _ _ _ _ e2, Result.andThen_ok]
    rw [show (Op.equalIn (d + 1) e (u64 (l1[k]'(by omega))) (u64 (l2[k]'(by omega)))).run P w = .ok (((l1[k]'(by omega)).toNat : Int) == ((l2[k]'(by omega)).toNat : Int)) w from run_equalIn_int w d e .u64 .u64 _ _ he]
    rw [List.drop_eq_getElem_cons (show k < l1.length by omega), List.drop_eq_getElem_cons (show k < l2.length by omega), List.take_succ_cons, List.take_succ_cons]
    by_cases hx : l1[k]'(by omega) = l2[k]'(by omega)
    · have t1 : (((l1[k]'(by omega)).toNat : Int) == ((l2[k]'(by omega)).toNat : Int)) = true := by rw [hx]; simp
      rw [t1]
      simp only [Result.andThen_ok, Bool.not_true, Bool.false_eq_true, if_false]
      rw [ih, hx]
      simp
    · have t1 : (((l1[k]'(by omega)).toNat : Int) == ((l2[k]'(by omega)).toNat : Int)) = false := by
        rw [beq_eq_false_iff_ne]; intro h; exact hx (UInt64.toNat_inj.1 (by omega))
      rw [t1]
      simp [hx]
theorem run_neq_words {t e : TypeId} {n : Nat} (ht : P.underlying t = some (.array n e)) (hi : (P.info? e).isSome = true) (he : P.underlying e = some (.int .u64)) (hc : P.cellsOf e = 1)
    (hp : ∀ (X : Array Value) (j : Nat) (u : Value) (w : World), X[j]? = some u → (part e X j).run P w = .ok u w)
    (l1 l2 : List UInt64) (h1 : l1.length = n) (h2 : l2.length = n) (w : World) : (binOp .neq t (.agg (l1.map u64).toArray) (.agg (l2.map u64).toArray)).run P w = .ok (.bool (!decide (l1 = l2))) w := by
  obtain ⟨i, hi⟩ := Option.isSome_iff_exists.1 hi
  rw [run_neq_struct, run_equalIn_array (w := w) 9999 _ _ ht hi, hc, List.range_eq_range', run_eqItems_words 9998 he hp n 0 l1 l2 w (by omega) (by omega)]
  simp only [List.drop_zero, Result.andThen_ok]
  rw [List.take_of_length_le (by omega), List.take_of_length_le (by omega)]
end
end Go.Proofs.YtbfmdbeeiicabaaGreat
namespace Go.Proofs.YtbfmdbeeiicabaaGreat
open Go.RowKit L02 L05 L13
theorem pair_neq (a b c d : UInt64) (r : Bool) (hr : r = !decide ([a, b] = [c, d])) (W : World) : (binOp .neq 174 (.agg #[.int .u64 a.toNat, .int .u64 b.toNat]) (.agg #[.int .u64 c.toNat, .int .u64 d.toNat])).run Tryz.prog W = .ok (.bool r) W := by
  subst hr
  exact run_neq_words (P := Tryz.prog) (n := 2) Tryz.underlying174 (by kernel_rfl) Tryz.underlying40 (by kernel_rfl) (fun X j u W h => run_part_plain W (by kernel_rfl) h) [a, b] [c, d] rfl rfl W
theorem lit_u8 {w : World} {e n : Nat} (x : Int) (q : UInt8) (hq : x = q.toNat) (hn : w.heap.size = n) : Rd (w.alloc (.cells #[.int .u8 x] e)) 1 (.slice (some ⟨n, 0, none⟩) 1 1) 1 ([q].map u8) := by
  subst hn hq; exact lit_rd
theorem one_u8' (q : UInt8) : ∀ u ∈ [q].map u8, u.oneCell' = true := one_u8s [q]
set_option maxHeartbeats 2000000 in
theorem KRead_any (a b : UInt64) (L : List UInt8) (r : Int) (hL : L = rdL a b) (hr : r = rdE a b) (w : World) :
    Calls Tryz.prog 77 #[.int .u64 a.toNat, .int .u64 b.toNat] w fun e w' => ∃ x, e = .returned (.tuple #[x, .int .i64 r]) ∧ OwnB w' w.heap.size 5 x L ∧ Below w.heap.size w w' := by
  have B : Below w.heap.size w w := Below.refl _ _
  have hal := toNat_lt a
  have e1 := and_int (a := (a.toNat : Int)) 8 (by omega) (by omega) 255 (by decide) (by omega)
  obtain ⟨n, hn⟩ : ∃ n, n = nOf a := ⟨_, rfl⟩
  have e1' : bits .and .u64 (a.toNat : Int) 255 = (n : Int) := by rw [e1, hn]; unfold nOf; simp only [show ((2 ^ 8 : Nat) : Int) = 256 from rfl]; omega
  clear e1
  have HL := Lib.hid hL; have HR := Lib.hid hr; have HN := Lib.hid hn
  clear hL hr
  by_cases hb : 8 < n
  · have hno : ¬ RdOk a b := fun h => by have := h.1; omega
    have hL0 : L = [] := by rw [HL.out, rdL, if_neg hno]
    have hr0 : r = 50 := by rw [HR.out, rdE, if_neg hno]
    subst hL0 hr0
    clear hn hno
    go_enter Tryz.func77, Tryz.ntmps77
    go_wp2
    go_ret2
    exact ⟨_, rfl, OwnB.nil _ _ _, B⟩
  · have hn8 : n ≤ 8 := by omega
    clear hb hn
    go_enter Tryz.func77, Tryz.ntmps77
    go_wp2
    have HB := Lib.hid B; clear B
    go_loopw [7, 16] (fun xv i wr => ∃ k : Nat, k ≤ n ∧ i = .int .u64 k ∧ Hid (OwnB wr w.heap.size 5 xv (dig a k)) ∧ Below w.heap.size w wr) (fun _ i _ => n - (intOf i).toNat)
    case atStart => exact ⟨0, by omega, rfl, Lib.hid (OwnB.nil _ _ _), HB.out⟩
    case round =>
      obtain ⟨k, hk, rfl, hh, B⟩ := hrel
      by_cases hlt : k < n
      · have hp : (2 : Int) ^ (8 + 2 * k) = ((256 * 4 ^ k : Nat) : Int) := by
          have : (2 : Nat) ^ (8 + 2 * k) = 256 * 4 ^ k := by rw [Nat.pow_add, Nat.pow_mul]
          exact_mod_cast this
        have HP := Lib.hid hp; clear hp
        obtain ⟨q, hq⟩ : ∃ q : UInt8, q = UInt8.ofNat (a.toNat / 256 / 4 ^ k % 4) := ⟨_, rfl⟩
        have hqn : q.toNat = a.toNat / 256 / 4 ^ k % 4 := by rw [hq, UInt8.toNat_ofNat']; omega
        have hql : q.toNat < 256 := q.toNat_lt
        have e2 : bits .and .u64 ((a.toNat : Int) / 2 ^ (8 + 2 * k)) 3 = (q.toNat : Int) := by
          have e3 : ((a.toNat : Int) / 2 ^ (8 + 2 * k)) = ((a.toNat / 256 / 4 ^ k : Nat) : Int) := by
            rw [HP.out, Nat.div_div_eq_div_mul]; exact (Int.natCast_ediv _ _).symm
          have h4 : a.toNat / 256 / 4 ^ k ≤ a.toNat := by rw [Nat.div_div_eq_div_mul]; exact Nat.div_le_self _ _
          rw [e3, hqn]
          generalize a.toNat / 256 / 4 ^ k = z at h4
          rw [and_int (a := (z : Int)) 2 (by omega) (by omega) 3 (by decide) (by omega)]
          exact (Int.natCast_emod z 4).symm
        have HQ := Lib.hid hq; have HO := Lib.hid hh.out; have HBB := Lib.hid B
        clear hq hqn hh B
        have hlk : (dig a k).length = k := dig_len a k
        have HLK := Lib.hid hlk; clear hlk
        go_wp2_with (at_builtin; refine wpList_append (by rfl) rfl rfl rfl Tryz.underlying94 info_u8 rfl (by omega) (by exact own_below HO.out ((Below.refl _ _).alloc (Nat.le_refl _) _)) (by exact lit_u8 _ q (by omega) rfl) (one_u8' q) (by rw [HLK.out]; omega) (by rw [HLK.out]; omega) (by exact HBB.out.alloc HBB.out.size _) (Nat.le_refl _) ?_; intro v1 w3 o3 B3 g3; clear g3)
        have o4 : OwnB w3 w.heap.size 5 v1 (dig a (k + 1)) := OwnB.of o3 (by rw [dig_succ, List.map_append, ← HQ.out])
        have HO4 := Lib.hid o4; have HB3 := Lib.hid B3; clear o3 o4 B3
        go_roundw
        case rel => exact ⟨k + 1, by omega, by go_num, Lib.hid HO4.out, HB3.out⟩
        case measure => simp [intOf]; omega
      · obtain rfl : k = n := by omega
        have HO := Lib.hid hh.out
        obtain ⟨l, hl⟩ : ∃ l, l = dig a k := ⟨_, rfl⟩
        rw [← hl] at HO
        obtain ⟨c, hc⟩ : ∃ c, c = w0 l := ⟨_, rfl⟩
        obtain ⟨d, hd⟩ : ∃ d, d = w1 l := ⟨_, rfl⟩
        obtain ⟨e, he⟩ : ∃ e, e = kErr l := ⟨_, rfl⟩
        have WT := fun v w h => KWrite_any v l c d e hc hd he w h
        have HW := Lib.hid WT; clear WT
        have hiff : RdOk a b ↔ e = 0 ∧ [c, d] = [a, b] := by
          unfold RdOk
          rw [← HN.out, ← hl, ← he, ← hc, ← hd]
          simp only [List.cons.injEq, and_true]
          exact ⟨fun h => ⟨h.2.1, h.2.2.1, h.2.2.2⟩, fun h => ⟨hn8, h.1, h.2.1, h.2.2⟩⟩
        have hrl : RdOk a b → L = l ∧ r = 0 := fun h => ⟨by rw [HL.out, rdL, if_pos h, ← HN.out, hl], by rw [HR.out, rdE, if_pos h]⟩
        have hrn : ¬ RdOk a b → L = [] ∧ r = 50 := fun h => ⟨by rw [HL.out, rdL, if_neg h], by rw [HR.out, rdE, if_neg h]⟩
        clear hc hd he hl hh
        have hcase : (e != 0) = true ∧ L = [] ∧ r = 50 ∨ e = 0 ∧ ((!decide ([c, d] = [a, b])) = true ∧ L = [] ∧ r = 50 ∨ (!decide ([c, d] = [a, b])) = false ∧ L = l ∧ r = 0) := by
          by_cases h1 : e = 0
          · by_cases h2 : [c, d] = [a, b]
            · have := hrl (hiff.2 ⟨h1, h2⟩)
              exact .inr ⟨h1, .inr ⟨by rw [decide_eq_true h2]; rfl, this⟩⟩
            · have := hrn (fun h => h2 (hiff.1 h).2)
              exact .inr ⟨h1, .inl ⟨by rw [decide_eq_false h2]; rfl, this⟩⟩
          · have := hrn (fun h => h1 (hiff.1 h).1)
            exact .inl ⟨by rw [bne_iff_ne]; exact h1, this⟩
        clear hiff hrl hrn
        rcases hcase with ⟨h1, rfl, rfl⟩ | ⟨rfl, ⟨h2, rfl, rfl⟩ | ⟨h2, rfl, rfl⟩⟩
        · go_wp2_with fail
          refine (HW.out _ _ HO.out.rd).mono ?_
          rintro e w3 ⟨rfl, bb⟩
          replace B := B.trans (bb.mono B.size); clear bb
          go_wp2
          go_ret2
          exact ⟨_, rfl, OwnB.nil _ _ _, B.alloc B.size _⟩
        · have q1 := fun W => pair_neq c d a b true h2.symm W
          go_wp2_with fail
          refine (HW.out _ _ HO.out.rd).mono ?_
          rintro e w3 ⟨rfl, bb⟩
          replace B := B.trans (bb.mono B.size); clear bb
          go_wp2
          go_ret2
          exact ⟨_, rfl, OwnB.nil _ _ _, B.alloc B.size _⟩
        · have q1 := fun W => pair_neq c d a b false h2.symm W
          go_wp2_with fail
          refine (HW.out _ _ HO.out.rd).mono ?_
          rintro e w3 ⟨rfl, bb⟩
          have o4 := (HO.out.below bb).below ((Below.refl _ _).alloc (Nat.le_refl _) (.cells #[.int .u64 c.toNat, .int .u64 d.toNat] 174))
          have HO4 := Lib.hid o4
          replace B := B.trans (bb.mono B.size); clear bb o4
          go_wp2
          go_ret2
          exact ⟨_, rfl, HO4.out, B.alloc B.size _⟩
end Go.Proofs.YtbfmdbeeiicabaaGreat
namespace Go.Proofs.YtbfmdbeeiicabaaGreat
open Go.RowKit L02 L05 L13
def tL (a : UInt64) : List UInt8 := dig a (min (nOf a) 8)
def tOk (a : UInt64) : Bool := decide (nOf a ≤ 8 ∧ a.toNat / 256 / 4 ^ nOf a = 0 ∧ kErr (dig a (nOf a)) = 0)
set_option maxHeartbeats 2000000 in
theorem KTold_any (a : UInt64) (r : Bool) (hr : r = tOk a) (w : World) :
    Calls Tryz.prog 131 #[.int .u64 a.toNat] w fun e w' => ∃ x, e = .returned (.tuple #[x, .bool r]) ∧ OwnB w' w.heap.size 5 x (tL a) ∧ Below w.heap.size w w' := by
  have B : Below w.heap.size w w := Below.refl _ _
  have hal := toNat_lt a
  obtain ⟨n, hn⟩ : ∃ n, n = nOf a := ⟨_, rfl⟩
  have hn' : (a.toNat : Int) % 256 = (n : Int) := by rw [hn]; unfold nOf; omega
  have hna : (n : Int) ≤ (a.toNat : Int) % 256 := by omega
  have hnb : (a.toNat : Int) % 256 ≤ (n : Int) := by omega
  clear hn'
  have hn2 : n < 256 := by rw [hn]; unfold nOf; omega
  obtain ⟨z0, hz0⟩ : ∃ z, z = a.toNat / 256 := ⟨_, rfl⟩
  have hz0' : (a.toNat : Int) / 256 = (z0 : Int) := by omega
  have hz0l : z0 < 18446744073709551616 := by omega
  have HR := Lib.hid hr; have HN := Lib.hid hn; have HZ0 := Lib.hid hz0
  clear hr hn hz0
  obtain ⟨m, hm⟩ : ∃ m, m = min n 8 := ⟨_, rfl⟩
  have hm1 : m ≤ n := by omega
  have hm2 : m ≤ 8 := by omega
  have hm3 : n ≤ m ∨ 8 ≤ m := by omega
  have HM := Lib.hid hm; clear hm
  go_enter Tryz.func131, Tryz.ntmps131
  go_wp2
  have HB := Lib.hid B; clear B hz0'
  go_loopw [5, 6, 7] (fun xv rv i wr => ∃ k z : Nat, k ≤ m ∧ i = .int .u64 k ∧ rv = .int .u64 (z : Int) ∧ z < 18446744073709551616 ∧ Hid (z = a.toNat / 256 / 4 ^ k ∧ OwnB wr w.heap.size 5 xv (dig a k)) ∧ Below w.heap.size w wr) (fun _ _ i _ => m - (intOf i).toNat)
  case atStart => exact ⟨0, z0, by omega, rfl, rfl, hz0l, Lib.hid ⟨by rw [HZ0.out]; simp, OwnB.nil _ _ _⟩, HB.out⟩
  case round =>
    obtain ⟨k, z, hk, rfl, rfl, hzl, hh, B⟩ := hrel
    by_cases hlt : k < m
    · have c1 : k < n := by omega
      have c2 : k < 8 := by omega
      obtain ⟨q, hq⟩ : ∃ q : UInt8, q = UInt8.ofNat (a.toNat / 256 / 4 ^ k % 4) := ⟨_, rfl⟩
      have hqn : q.toNat = z % 4 := by rw [hq, UInt8.toNat_ofNat', hh.out.1]; omega
      have HQ := Lib.hid hq; have HO := Lib.hid hh.out.2; have HBB := Lib.hid B; have HZ := Lib.hid hh.out.1; have HQN := Lib.hid hqn
      clear hq hh B hqn
      have hlk : (dig a k).length = k := dig_len a k
      have HLK := Lib.hid hlk; clear hlk
      go_wp2_with (at_builtin; refine wpList_append (by rfl) rfl rfl rfl Tryz.underlying94 info_u8 rfl (by omega) (by exact own_below HO.out ((Below.refl _ _).alloc (Nat.le_refl _) _)) (by exact lit_u8 _ q (by have := HQN.out; omega) rfl) (one_u8' q) (by rw [HLK.out]; omega) (by rw [HLK.out]; omega) (by exact HBB.out.alloc HBB.out.size _) (Nat.le_refl _) ?_; intro v1 w3 o3 B3 g3; clear g3)
      have o4 : OwnB w3 w.heap.size 5 v1 (dig a (k + 1)) := OwnB.of o3 (by rw [dig_succ, List.map_append, ← HQ.out])
      have HO4 := Lib.hid o4; have HB3 := Lib.hid B3; clear o3 o4 B3
      go_roundw
      case rel => exact ⟨k + 1, z / 4, by omega, by go_num, by go_num, by omega, Lib.hid ⟨by rw [HZ.out, Nat.pow_succ, ← Nat.div_div_eq_div_mul], HO4.out⟩, HB3.out⟩
      case measure => simp [intOf]; omega
    · obtain rfl : k = m := by omega
      have HO := Lib.hid hh.out.2; have HZ := Lib.hid hh.out.1
      clear hh
      by_cases h8 : n ≤ 8
      · have hkn : k = n := by omega
        have hkL : tL a = dig a k := by rw [tL, ← HN.out, ← HM.out]
        have hrr : r = decide (z = 0 ∧ kErr (dig a k) = 0) := by
          have h1 := HZ.out
          rw [hkn] at h1
          rw [HR.out, tOk, hkn, Bool.eq_iff_iff, decide_eq_true_iff, decide_eq_true_iff, ← HN.out, ← h1]
          exact ⟨fun h => h.2, fun h => ⟨h8, h⟩⟩
        have HKL := Lib.hid hkL
        obtain ⟨e, he⟩ : ∃ e, e = kErr (dig a k) := ⟨_, rfl⟩
        rw [← he] at hrr
        have CT := fun v w h => KCheckR_any v (dig a k) e he w h
        have HC := Lib.hid CT
        subst hkn
        clear hkL CT he hm1 hm3 hlt
        have hcase : ((z : Int) == 0) = false ∧ r = false ∨ z = 0 ∧ ((e == 0) = false ∧ r = false ∨ (e == 0) = true ∧ r = true) := by
          by_cases h1 : z = 0
          · by_cases h2 : e = 0
            · exact .inr ⟨h1, .inr ⟨by rw [beq_iff_eq]; exact h2, by rw [hrr, decide_eq_true ⟨h1, h2⟩]⟩⟩
            · exact .inr ⟨h1, .inl ⟨by rw [beq_eq_false_iff_ne]; exact h2, by rw [hrr, decide_eq_false (fun h => h2 h.2)]⟩⟩
          · exact .inl ⟨by rw [beq_eq_false_iff_ne]; omega, by rw [hrr, decide_eq_false (fun h => h1 h.1)]⟩
        clear hrr
        rcases hcase with ⟨h1, rfl⟩ | ⟨rfl, ⟨h2, rfl⟩ | ⟨h2, rfl⟩⟩
        · go_wp2
          go_ret2
          exact ⟨_, rfl, by rw [HKL.out]; exact HO.out, B⟩
        · go_wp2_with fail
          refine (HC.out _ _ HO.out.rd).mono ?_
          rintro e2 w3 ⟨rfl, rfl⟩
          go_wp2
          go_ret2
          exact ⟨_, rfl, by rw [HKL.out]; exact HO.out, B⟩
        · go_wp2_with fail
          refine (HC.out _ _ HO.out.rd).mono ?_
          rintro e2 w3 ⟨rfl, rfl⟩
          go_wp2
          go_ret2
          exact ⟨_, rfl, by rw [HKL.out]; exact HO.out, B⟩
      · have hkL : tL a = dig a k := by rw [tL, ← HN.out, ← HM.out]
        have hrr : r = false := by rw [HR.out, tOk, decide_eq_false]; intro h; have := h.1; rw [← HN.out] at this; exact h8 this
        have HKL := Lib.hid hkL
        subst hrr
        have hk8 : k = 8 := by omega
        subst hk8
        clear hkL hlt hm3
        go_wp2
        go_ret2
        exact ⟨_, rfl, by rw [HKL.out]; exact HO.out, B⟩
theorem rd_iff (a b : UInt64) : RdOk a b ↔ tOk a = true ∧ b = sum [a] := by
  unfold RdOk tOk
  rw [decide_eq_true_iff]
  constructor
  · rintro ⟨h1, h2, h3, h4⟩
    refine ⟨⟨h1, (w0_dig a h1 h2).1 h3, h2⟩, ?_⟩
    rw [← h4, w1, if_pos h2, h3]
  · rintro ⟨⟨h1, h2, h3⟩, h4⟩
    have h5 := (w0_dig a h1 h3).2 h2
    exact ⟨h1, h3, h5, by rw [w1, if_pos h3, h5, h4]⟩
set_option maxHeartbeats 2000000 in
theorem KReadR_any (a b : UInt64) (L : List UInt8) (r : Int) (hL : L = rdL a b) (hr : r = rdE a b) (w : World) :
    Calls Tryz.prog 112 #[.int .u64 a.toNat, .int .u64 b.toNat] w fun e w' => ∃ x, e = .returned (.tuple #[x, .int .i64 r]) ∧ OwnB w' w.heap.size 5 x L ∧ Below w.heap.size w w' := by
  have B : Below w.heap.size w w := Below.refl _ _
  obtain ⟨t, ht⟩ : ∃ t, t = tOk a := ⟨_, rfl⟩
  have TT := fun w => KTold_any a t ht w
  obtain ⟨s, hs⟩ : ∃ s, s = sum [a] := ⟨_, rfl⟩
  have ST := fun v w h => SumR_r v [a] s hs w h (by simp)
  have HT := Lib.hid TT; have HS := Lib.hid ST
  have hiff := rd_iff a b
  rw [← ht, ← hs] at hiff
  have hcase : t = false ∧ L = [] ∧ r = 50 ∨ t = true ∧ (((b.toNat : Int) != (s.toNat : Int)) = true ∧ L = [] ∧ r = 50 ∨ ((b.toNat : Int) != (s.toNat : Int)) = false ∧ L = tL a ∧ r = 0) := by
    have hno : ¬ RdOk a b → L = [] ∧ r = 50 := fun h => ⟨by rw [hL, rdL, if_neg h], by rw [hr, rdE, if_neg h]⟩
    cases t
    · exact .inl ⟨rfl, hno (fun h => by simpa using (hiff.1 h).1)⟩
    · by_cases hbs : b = s
      · have hok := hiff.2 ⟨rfl, hbs⟩
        refine .inr ⟨rfl, .inr ⟨by rw [hbs]; simp, ?_, by rw [hr, rdE, if_pos hok]⟩⟩
        rw [hL, rdL, if_pos hok, tL, Nat.min_eq_left hok.1]
      · refine .inr ⟨rfl, .inl ⟨?_, hno (fun h => hbs (hiff.1 h).2)⟩⟩
        rw [bne_iff_ne]
        exact fun h => hbs (UInt64.toNat_inj.1 (by omega))
  clear TT ST ht hs hiff hL hr
  rcases hcase with ⟨rfl, rfl, rfl⟩ | ⟨rfl, ⟨hne, rfl, rfl⟩ | ⟨hne, rfl, rfl⟩⟩
  · go_enter Tryz.func112, Tryz.ntmps112
    go_wp2_with fail
    refine (HT.out _).mono ?_
    rintro e w2 ⟨x, rfl, o, b⟩
    go_wp2
    go_ret2
    exact ⟨_, rfl, OwnB.nil _ _ _, b⟩
  · go_enter Tryz.func112, Tryz.ntmps112
    go_wp2_with fail
    refine (HT.out _).mono ?_
    rintro e w2 ⟨x, rfl, o, b⟩
    go_wp2_with fail
    refine (HS.out _ _ (lit_word a rfl)).mono ?_
    rintro e w3 ⟨rfl, bb⟩
    have B := (b.alloc b.size (.cells #[.int .u64 a.toNat] 40)).trans (bb.mono (Nat.le_trans b.size (by simp)))
    clear bb
    go_wp2
    go_ret2
    exact ⟨_, rfl, OwnB.nil _ _ _, B⟩
  · go_enter Tryz.func112, Tryz.ntmps112
    go_wp2_with fail
    refine (HT.out _).mono ?_
    rintro e w2 ⟨x, rfl, o, b⟩
    go_wp2_with fail
    refine (HS.out _ _ (lit_word a rfl)).mono ?_
    rintro e w3 ⟨rfl, bb⟩
    have B := (b.alloc b.size (.cells #[.int .u64 a.toNat] 40)).trans (bb.mono (Nat.le_trans b.size (by simp)))
    have o2 := (o.below ((Below.refl _ _).alloc (Nat.le_refl _) (.cells #[.int .u64 a.toNat] 40))).below bb
    have HO := Lib.hid o2
    clear bb o o2
    go_wp2
    go_ret2
    exact ⟨_, rfl, HO.out, B⟩
end Go.Proofs.YtbfmdbeeiicabaaGreat
namespace Go.Proofs.YtbfmdbeeiicabaaGreat.L13
open L02 L05
/-- the two words of type number i -/
def ta (l : List UInt64) (i : Nat) : UInt64 := l.getD (96 + 2 * i) 0
def tb (l : List UInt64) (i : Nat) : UInt64 := l.getD (97 + 2 * i) 0
def TyOk (l : List UInt64) (n i : Nat) : Prop := if i < n then RdOk (ta l i) (tb l i) else ta l i = 0 ∧ tb l i = 0
instance (l : List UInt64) (n i : Nat) : Decidable (TyOk l n i) := inferInstanceAs (Decidable (if i < n then RdOk (ta l i) (tb l i) else ta l i = 0 ∧ tb l i = 0))
def TysOk (l : List UInt64) (n : Nat) : Prop := ∀ i, i < 8 → TyOk l n i
instance (l : List UInt64) (n : Nat) : Decidable (TysOk l n) := inferInstanceAs (Decidable (∀ i, i < 8 → TyOk l n i))
def tysTo (l : List UInt64) (k : Nat) : List (List UInt8) := (List.range k).map fun i => rdL (ta l i) (tb l i)
def tys (l : List UInt64) (n : Nat) : List (List UInt8) := if TysOk l n then tysTo l n else []
def tabErr (l : List UInt64) (n : Int) : Int := if SizeOk l.length then (if 0 ≤ n ∧ n ≤ 8 then (if TysOk l n.toNat then 0 else 50) else 2) else 8
def tabT (l : List UInt64) (n : Int) : List (List UInt8) := if tabErr l n = 0 then tysTo l n.toNat else []
theorem tysTo_succ (l : List UInt64) (k : Nat) : tysTo l (k + 1) = tysTo l k ++ [rdL (ta l k) (tb l k)] := by
  unfold tysTo
  rw [List.range_succ, List.map_append]; rfl
theorem tysTo_len (l : List UInt64) (k : Nat) : (tysTo l k).length = k := by simp [tysTo]
theorem ta_of {l : List UInt64} {i : Nat} {x : UInt64} (h : l[96 + 2 * i]? = some x) : ta l i = x := by simp [ta, List.getD_eq_getElem?_getD, h]
theorem tb_of {l : List UInt64} {i : Nat} {x : UInt64} (h : l[97 + 2 * i]? = some x) : tb l i = x := by simp [tb, List.getD_eq_getElem?_getD, h]
theorem rdE_ok {a b : UInt64} : rdE a b = 0 ↔ RdOk a b := by
  unfold rdE
  split <;> simp_all
end Go.Proofs.YtbfmdbeeiicabaaGreat.L13
