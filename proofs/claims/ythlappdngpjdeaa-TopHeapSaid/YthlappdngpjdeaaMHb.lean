/- Contracts of the functions that the laws 'H' reach, part 2. No condition. -/
import Derived.Test.YthlappdngpjdeaaMHa
set_option linter.unusedVariables false
set_option linter.unusedSimpArgs false
namespace Go.Proofs.Ythlappdngpjdeaa
open Go Go.RowKit
section
variable {P : Program} {ops : Array Oper} {md : Region.Mode} {C : Array Bool → World → Prop}
def uponF (P : Program) (Post : World → Prop) (v : Value) : Result Next → Prop
  | .ok (.value u) w' => u = v ∧ Post w'
  | .ok .skip w' => v = undef ∧ Post w'
  | .ok (.enter f args) w' => Calls P f args w' (fun e w'' => e = .returned v ∧ Post w'')
  | _ => False
def YieldsF (P : Program) (md : Region.Mode) (ops : Array Oper) (C : Array Bool → World → Prop) (i : Nat) (o : Oper) (v : Value) (a : Act) : Prop :=
  (Region.wanted o (yielded ops a.tmps) = true ∧ ∀ listed w, i ∈ Region.ready md ops listed → C listed w → uponF P (C (listed.setIfInBounds i true)) v ((execOp a.eval o).run P w)) ∨
  (Region.wanted o (yielded ops a.tmps) = false ∧ v = undef ∧ ∀ listed w, i ∈ Region.ready md ops listed → C listed w → C (listed.setIfInBounds i true) w)
def qOpF (P : Program) (md : Region.Mode) (ops : Array Oper) (C : Array Bool → World → Prop) (i : Nat) (K : Act → Prop) (a : Act) : Prop :=
  match ops[i]? with
  | none => False
  | some o => ∃ v, YieldsF P md ops C i o v a ∧ K (a.put o.dst v)
theorem qOpF_mono {i : Nat} {a : Act} {K K' : Act → Prop} (h : ∀ a, K a → K' a) (hh : qOpF P md ops C i K a) : qOpF P md ops C i K' a := by
  unfold qOpF at *
  split
  · rename_i ho; simp only [ho] at hh
  · rename_i o ho
    simp only [ho] at hh
    obtain ⟨v, h1, h2⟩ := hh
    exact ⟨v, h1, h _ h2⟩
def wpAnyF (P : Program) (md : Region.Mode) (ops : Array Oper) (C : Array Bool → World → Prop) (Q : Array Bool → Act → Prop) : Nat → Array Bool → Act → Prop
  | 0, listed, a => Region.ready md ops listed = [] ∧ Q listed a
  | fuel + 1, listed, a =>
    (Region.ready md ops listed = [] → Q listed a) ∧
    ∀ i ∈ Region.ready md ops listed, qOpF P md ops C i (wpAnyF P md ops C Q fuel (listed.setIfInBounds i true)) a
theorem wpOp_of_qOpF {i : Nat} {a : Act} {listed : Array Bool} {K : Act → Prop} {K' : Act → World → Prop} {Q' : Exit → Act → World → Prop} {w : World} (hl : i ∈ Region.ready md ops listed) (hC : C listed w)
    (h : ∀ a w', C (listed.setIfInBounds i true) w' → K a → K' a w') (hh : qOpF P md ops C i K a) : wpOp P ops Q' i K' a w := by
  unfold qOpF at hh
  unfold wpOp
  split
  · rename_i ho; simp only [ho] at hh
  · rename_i o ho
    simp only [ho] at hh
    obtain ⟨v, hy, h2⟩ := hh
    rcases hy with ⟨hw, hv⟩ | ⟨hw, rfl, hv⟩
    · rw [if_pos hw]
      left
      have h3 := hv listed w hl hC
      unfold Oper.wp
      generalize (execOp a.eval o).run P w = r at *
      cases r with
      | ok n w' =>
        cases n <;> simp only [uponF] at h3 <;> simp only [Oper.upon]
        case value u => obtain ⟨e1, e2⟩ := h3; rw [e1]; exact h _ _ e2 h2
        case skip => obtain ⟨e1, e2⟩ := h3; rw [← e1]; exact h _ _ e2 h2
        case enter f args => exact h3.mono fun e w'' ⟨he, hw''⟩ => by subst he; exact h _ _ hw'' h2
      | halt x w' => simp only [uponF] at h3
    · rw [if_neg (by rw [hw]; exact Bool.false_ne_true)]
      exact h _ _ (hv listed w hl hC) h2
theorem wpAny_of_F {Q : Array Bool → Act → Prop} {Q' : Exit → Act → World → Prop} (hQ : ∀ listed a w, C listed w → Q listed a → Q' .normal a w) : ∀ (fuel : Nat) (listed : Array Bool) (a : Act) (w : World), C listed w →
    wpAnyF P md ops C Q fuel listed a → wpAny P md ops Q' fuel listed a w
  | 0, _, _, _, hw, h => ⟨h.1, hQ _ _ _ hw h.2⟩
  | fuel + 1, listed, _, _, hw, h => ⟨fun h0 => hQ _ _ _ hw (h.1 h0), fun i hi => wpOp_of_qOpF hi hw (fun a' w' hw' => wpAny_of_F hQ fuel _ a' w' hw') (h.2 i hi)⟩
theorem YieldsF.of_same {i : Nat} {o : Oper} {v : Value} {a a' : Act} (hy : YieldsF P md ops C i o v a) (he : execOp a'.eval o = execOp a.eval o)
    (hw : Region.wanted o (yielded ops a'.tmps) = Region.wanted o (yielded ops a.tmps)) : YieldsF P md ops C i o v a' := by
  unfold YieldsF at *
  rw [he, hw]
  exact hy
theorem qOpF_put {i j : Nat} {oi oj : Oper} {v : Value} (hj : ops[j]? = some oj) (hap : oi.apart ops oj = true)
    (hsi : ∀ cs b, oi.op ≠ .select cs b) (hsj : ∀ cs b, oj.op ≠ .select cs b) {K : Act → Prop} {a : Act}
    (hy : YieldsF P md ops C i oi v a) (h : qOpF P md ops C j K (a.put oi.dst v)) :
    qOpF P md ops C j (fun a' => YieldsF P md ops C i oi v a' ∧ K (a'.put oi.dst v)) a := by
  obtain ⟨h1, h2, h3⟩ := Oper.apart_spec hap
  unfold qOpF at *
  simp only [hj] at *
  obtain ⟨u, hu, hn⟩ := h
  refine ⟨u, hu.of_same ?_ ?_, hy.of_same ?_ ?_, ?_⟩
  · exact (execOp_put oj hsj a oi.dst v h1).symm
  · exact (wanted_put oj a oi.dst v h1).symm
  · exact execOp_put oi hsi a oj.dst u h3
  · exact wanted_put oi a oj.dst u h3
  · rw [← Act.put_comm a v u h2]; exact hn
theorem wpAnyF_first {Q : Array Bool → Act → Prop} {i : Nat} {oi : Oper} {v : Value} (hi : ops[i]? = some oi) (hsel : ∀ (j : Nat) (o : Oper) cs b, ops[j]? = some o → o.op ≠ .select cs b) :
    ∀ (fuel : Nat) (listed : Array Bool) (a : Act),
      (∀ j oj, ops[j]? = some oj → j ≠ i → listed.getD j true = false → (∀ e ∈ oj.after, Region.binds md e = true → e.on ≠ i) → oi.apart ops oj = true) →
      i ∈ Region.ready md ops listed → YieldsF P md ops C i oi v a →
      wpAnyF P md ops C Q fuel (listed.setIfInBounds i true) (a.put oi.dst v) → wpAnyF P md ops C Q (fuel + 1) listed a := by
  intro fuel
  induction fuel with
  | zero =>
    intro listed a _ hr hy H
    refine ⟨fun h => (by rw [h] at hr; cases hr), fun j hj => ?_⟩
    by_cases hji : j = i
    · subst hji
      unfold qOpF; simp only [hi]
      exact ⟨v, hy, H⟩
    · have := ready_mono hj hji
      rw [H.1] at this
      cases this
  | succ fuel ih =>
    intro listed a hfree hr hy H
    refine ⟨fun h => (by rw [h] at hr; cases hr), fun j hj => ?_⟩
    by_cases hji : j = i
    · subst hji
      unfold qOpF; simp only [hi]
      exact ⟨v, hy, H⟩
    · have h1 := H.2 j (ready_mono hj hji)
      obtain ⟨hjun, oj, hoj, hall⟩ := mem_ready.1 hj
      have hnot : ∀ e ∈ oj.after, Region.binds md e = true → e.on ≠ i := fun e he hb heq => by
        have h1 := hall e he hb
        have h0 := (mem_ready.1 hr).1
        rw [heq] at h1
        rcases Nat.lt_or_ge i listed.size with h' | h'
        · simp [h'] at h0 h1; rw [h0] at h1; cases h1
        · simp [Array.getElem?_eq_none h'] at h1
      have h2 := qOpF_put hoj (hfree j oj hoj hji hjun hnot) (fun cs b => hsel i oi cs b hi) (fun cs b => hsel j oj cs b hoj) hy h1
      have hfree' : ∀ k ok, ops[k]? = some ok → k ≠ i → (listed.setIfInBounds j true).getD k true = false →
          (∀ e ∈ ok.after, Region.binds md e = true → e.on ≠ i) → oi.apart ops ok = true := fun k ok hk hki hun hno => by
        refine hfree k ok hk hki ?_ hno
        by_cases hjk : j = k
        · subst hjk; exact hjun
        · rw [getD_set_ne true hjk] at hun; exact hun
      refine qOpF_mono (fun a' h3 => ih (listed.setIfInBounds j true) a' hfree' (ready_mono hr (Ne.symm hji)) h3.1 ?_) h2
      rw [Array.setIfInBounds_comm _ _ hji]
      exact h3.2
/-- the walk in the order of the text, number k first -/
def wpF (P : Program) (md : Region.Mode) (ops : Array Oper) (C : Array Bool → World → Prop) (Q : Act → Prop) : List Oper → Nat → Act → Prop
  | [], _, a => Q a
  | o :: rest, k, a => ∃ v, YieldsF P md ops C k o v a ∧ wpF P md ops C Q rest (k + 1) (a.put o.dst v)
def setAll : Nat → Nat → Array Bool → Array Bool
  | 0, _, l => l
  | n + 1, k, l => setAll n (k + 1) (l.setIfInBounds k true)
theorem wpAnyF_lex {Q : Array Bool → Act → Prop} (hs : Region.noSelect ops = true) : ∀ (l : List Oper) (k : Nat) (listed : Array Bool) (a : Act), (∀ j, l[j]? = ops[k + j]?) →
    Region.lexFrom md ops l.length k listed = true → wpF P md ops C (Q (setAll l.length k listed)) l k a → wpAnyF P md ops C Q l.length listed a
  | [], _, _, _, _, hB, h => ⟨by simpa [Region.lexFrom] using hB, h⟩
  | o :: l, k, listed, a, hl, hB, h => by
    have h0 : ops[k]? = some o := by simpa using (hl 0).symm
    simp only [List.length_cons, Region.lexFrom, Bool.and_eq_true] at hB
    obtain ⟨⟨hr, hf⟩, hB'⟩ := hB
    obtain ⟨v, hy, hK⟩ := h
    exact wpAnyF_first h0 (Region.noSelect_spec hs) l.length listed a (Region.free_spec h0 hf) (by simpa using hr) hy
      (wpAnyF_lex hs l (k + 1) _ _ (fun j => by have := hl (j + 1); simpa [Nat.add_assoc, Nat.add_comm 1 j] using this) hB' hK)
theorem wp_region_F {id : Nat} {Q : Exit → Act → World → Prop} {a : Act} {w : World} {l : List Oper} (C : Array Bool → World → Prop) (hm : P.follows .mixedOrders = true) (hB : Region.lexB .any l.toArray = true)
    (hC : C (Array.replicate l.length false) { w with drawn := w.drawn + 1 })
    (h : wpF P .any l.toArray C (fun a' => ∀ w', C (setAll l.length 0 (Array.replicate l.length false)) w' → Q .normal a' w') l 0 a) : (Code.region id l.toArray true).wp P Q a w := by
  simp only [Region.lexB, Bool.and_eq_true] at hB
  refine wp_region_any hm (wpAny_of_F (C := C) (Q := fun listed a' => ∀ w', C listed w' → Q .normal a' w') (fun _ _ w' hw' h => h w' hw') _ _ _ _ (by simpa using hC) ?_)
  have := wpAnyF_lex (C := C) (md := .any) (Q := fun listed a' => ∀ w', C listed w' → Q .normal a' w') hB.1 l 0 (Array.replicate l.length false) a (by simp) (by simpa using hB.2) h
  simpa using this
end
/-! two flagged operations, numbers j1, j2 (a number that no operation bears: none) -/
/-- the operations that yield a value without entering a function -/
def isV : Op → Bool
  | .move _ | .assign _ | .pick .. | .build .. | .load .. | .binOp .. | .unOp .. | .convert .. | .slice .. | .fieldAddr .. | .field .. | .indexAddr .. | .index .. | .extract .. | .sliceToArrayPointer .. => true
  | _ => false
theorem run_v {P : Program} {s : Sem Value} {w w' : World} {n : Next} (h : (do pure (Next.value (← s)) : Sem Next).run P w = .ok n w') : ∃ u, n = .value u := by
  rw [Sem.run_bind] at h
  cases hs : s.run P w with
  | ok u w1 => rw [hs] at h; simp [Result.andThen] at h; exact ⟨u, h.1.symm⟩
  | halt x w1 => rw [hs] at h; simp [Result.andThen] at h
theorem isV_value {P : Program} {o : Oper} {ev : Operand → Value} {w w' : World} {n : Next} (hV : isV o.op = true) (h : (execOp ev o).run P w = .ok n w') : ∃ u, n = .value u := by
  unfold execOp at h
  cases ho : o.op <;> rw [ho] at h hV <;> simp only [isV, Bool.false_eq_true] at hV <;> dsimp only at h
  case move x => simp at h; exact ⟨_, h.1.symm⟩
  case assign x => simp at h; exact ⟨_, h.1.symm⟩
  case pick c x y =>
    rw [Sem.run_bind] at h
    cases hs : (asBool (ev c)).run P w with
    | ok u w1 => rw [hs] at h; simp [Result.andThen] at h; exact ⟨_, h.1.symm⟩
    | halt x w1 => rw [hs] at h; simp [Result.andThen] at h
  all_goals exact run_v h
structure FX (F : Bool → Bool → World → Prop) where
  W : World
  h : ∃ b1 b2, F b1 b2 W
section
variable {P : Program} {ops : Array Oper} {rest : List Oper} {o : Oper} {a : Act} {Q : Act → Prop} {F : Bool → Bool → World → Prop} {j1 j2 k : Nat} {md : Region.Mode}
theorem ready_after {i j : Nat} {oi : Oper} {listed : Array Bool} (hi : ops[i]? = some oi) (hd : (oi.after.any fun e => Region.binds md e && e.on == j) = true) (hr : i ∈ Region.ready md ops listed) : listed.getD j false = true := by
  obtain ⟨_, o', ho', hall⟩ := mem_ready.1 hr
  have : o' = oi := Option.some.inj (ho'.symm.trans hi)
  subst this
  obtain ⟨e, he, hb⟩ := Array.any_eq_true'.1 hd
  simp only [Bool.and_eq_true, beq_iff_eq] at hb
  rw [← hb.2]; exact hall e he hb.1
structure FX1 (F : Bool → Bool → World → Prop) where
  W : World
  h : ∃ b2, F true b2 W
theorem getD_on {listed : Array Bool} {i : Nat} (h : listed.getD i true = false) : listed.getD i false = false ∧ (listed.setIfInBounds i true).getD i false = true := by
  rcases Nat.lt_or_ge i listed.size with h' | h'
  · simp [h'] at h ⊢; exact h
  · simp [Array.getElem?_eq_none h'] at h
end
/-- the flagged operation is a call that makes just one block -/
def FNew (w0 : World) (t : TypeId) (cs : Array Value) : Bool → Bool → World → Prop := fun b1 _ W => Below w0.heap.size w0 W ∧ (b1 = false → W.heap.size = w0.heap.size) ∧ (b1 = true → Bx W w0.heap.size t cs)
theorem FNew.start (w0 : World) (t : TypeId) (cs : Array Value) : FNew w0 t cs false false w0.drew := ⟨(Below.refl _ _).drew, fun _ => rfl, (fun h => by cases h)⟩
theorem FNew.below {w0 : World} {t : TypeId} {cs : Array Value} (x : FX (FNew w0 t cs)) : Below w0.heap.size w0 x.W := by obtain ⟨W, b1, b2, h⟩ := x; exact h.1
instance (w0 : World) (t : TypeId) (cs : Array Value) : Nonempty (FX (FNew w0 t cs)) := ⟨⟨w0.drew, false, false, FNew.start w0 t cs⟩⟩
instance (w0 : World) (t : TypeId) (cs : Array Value) : Nonempty (FX1 (FNew w0 t cs)) := ⟨⟨w0.alloc (.cells cs t), false, (Below.refl _ _).alloc (Nat.le_refl _) _, (fun h => by cases h), fun _ => Bx.new _ _ _⟩⟩
theorem FNew.call {P : Program} {f : FuncId} {av : Array Value} {w0 : World} {t : TypeId} {cs : Array Value} {n c : Nat}
    (h : ∀ W, Calls P f av W (fun e w' => e = .returned (.slice (some ⟨W.heap.size, 0, none⟩) n c) ∧ Bx w' W.heap.size t cs ∧ Below W.heap.size W w')) (b2 : Bool) (W : World) (hW : FNew w0 t cs false b2 W) :
    Calls P f av W (fun e W' => e = .returned (.slice (some ⟨w0.heap.size, 0, none⟩) n c) ∧ FNew w0 t cs true b2 W') := by
  have hz := hW.2.1 rfl
  refine (h W).mono fun e w' ⟨h1, h2, h3⟩ => ?_
  rw [hz] at h1 h2
  exact ⟨h1, hW.1.trans (h3.mono (by rw [hz]; exact Nat.le_refl _)), (fun h => by cases h), fun _ => h2⟩
end Go.Proofs.Ythlappdngpjdeaa
namespace Go.Proofs.Ythlappdngpjdeaa
open Go Go.RowKit
def CN (F : (Nat → Bool) → World → Prop) : Array Bool → World → Prop := fun listed W => F (fun j => listed.getD j false) W
def Dep (F : (Nat → Bool) → World → Prop) (js : List Nat) : Prop := ∀ f g W, (∀ j ∈ js, f j = g j) → F f W → F g W
structure FXN (F : (Nat → Bool) → World → Prop) where
  W : World
  h : ∃ f, F f W
section
variable {P : Program} {ops : Array Oper} {rest : List Oper} {o : Oper} {a : Act} {Q : Act → Prop} {F : (Nat → Bool) → World → Prop} {js : List Nat} {k : Nat} {md : Region.Mode}
theorem CN.skip (hD : Dep F js) (hk : k ∉ js) {listed : Array Bool} {W : World} (hW : CN F listed W) : CN F (listed.setIfInBounds k true) W := by
  refine hD _ _ _ (fun j hj => ?_) hW
  have hne : k ≠ j := fun e => hk (e ▸ hj)
  rw [getD_set_ne false hne]
theorem wpN_read (hD : Dep F js) (hV : isV o.op = true) (hk : k ∉ js) (h : wpQuiet P ops (fun W => ∃ x : FXN F, W = x.W) (fun a' => wpF P md ops (CN F) Q rest (k + 1) a') [o] a) : wpF P md ops (CN F) Q (o :: rest) k a := by
  unfold wpQuiet at h
  split at h
  · rename_i hw
    obtain ⟨v, h1, h2⟩ := h
    refine ⟨v, .inl ⟨hw, fun listed W hl hW => ?_⟩, h2⟩
    have h3 := h1 W ⟨⟨W, _, hW⟩, rfl⟩
    unfold Oper.quietAt at h3
    cases hr : (execOp a.eval o).run P W with
    | ok n w' =>
      obtain ⟨u, rfl⟩ := isV_value hV hr
      rw [hr] at h3
      simp only [Oper.quietUpon] at h3
      simp only [uponF]
      obtain ⟨e1, e2⟩ := h3
      subst e1
      exact ⟨e2, hW.skip hD hk⟩
    | halt x w' => rw [hr] at h3; simp only [Oper.quietUpon] at h3
  · rename_i hw
    exact ⟨undef, .inr ⟨by simpa using hw, rfl, fun listed W hl hW => hW.skip hD hk⟩, h⟩
end
theorem wp_region_N {P : Program} {id : Nat} {Q : Exit → Act → World → Prop} {a : Act} {w : World} {l : List Oper} (F : (Nat → Bool) → World → Prop) (js : List Nat) (hD : Dep F js) (hm : P.follows .mixedOrders = true) (hB : Region.lexB .any l.toArray = true)
    (hf : (js.all fun j => (setAll l.length 0 (Array.replicate l.length false)).getD j false) = true)
    (hC : F (fun _ => false) w.drew)
    (h : wpF P .any l.toArray (CN F) (fun a' => ∀ w', F (fun _ => true) w' → Q .normal a' w') l 0 a) : (Code.region id l.toArray true).wp P Q a w := by
  have e : ∀ j, (Array.replicate l.length false).getD j false = false := fun j => getD_replicate_false _ _
  refine wp_region_F (CN F) hm hB ?_ ?_
  · exact hD _ _ _ (fun j _ => (e j).symm) hC
  · have e2 : ∀ w', CN F (setAll l.length 0 (Array.replicate l.length false)) w' → F (fun _ => true) w' := fun w' h' => hD _ _ _ (fun j hj => by simpa using List.all_eq_true.1 hf j hj) h'
    have mono : ∀ (r : List Oper) (k : Nat) (a' : Act), wpF P .any l.toArray (CN F) (fun a' => ∀ w', F (fun _ => true) w' → Q .normal a' w') r k a' → wpF P .any l.toArray (CN F) (fun a' => ∀ w', CN F (setAll l.length 0 (Array.replicate l.length false)) w' → Q .normal a' w') r k a' := by
      intro r
      induction r with
      | nil => intro k a' h0 w' h'; exact h0 w' (e2 w' h')
      | cons o r ih => intro k a' h0; obtain ⟨v, h1, h2⟩ := h0; exact ⟨v, h1, ih _ _ h2⟩
    exact mono l 0 a h
end Go.Proofs.Ythlappdngpjdeaa
namespace Go.Proofs.Ythlappdngpjdeaa
open Go Go.RowKit
/-- a block, and the store number k that makes 'new' of 'old' -/
structure Bk where
  g : Nat
  t : TypeId
  k : Nat
  old : Array Value
  new : Array Value
def FBx (w0 : World) (B : Nat) (L : List Bk) : (Nat → Bool) → World → Prop := fun f W => Below B w0 W ∧ ∀ p ∈ L, Bx W p.g p.t (if f p.k = true then p.new else p.old)
section
variable {w0 : World} {B : Nat} {L : List Bk} {js : List Nat}
theorem FBx.dep (h : ∀ p ∈ L, p.k ∈ js) : Dep (FBx w0 B L) js := by
  rintro f g W hfg ⟨h1, h2⟩
  exact ⟨h1, fun p hp => by rw [← hfg p.k (h p hp)]; exact h2 p hp⟩
theorem FBx.start {W : World} (h1 : Below B w0 W) (h2 : ∀ p ∈ L, Bx W p.g p.t p.old) : FBx w0 B L (fun _ => false) W.drew := ⟨h1.drew, fun p hp => by rw [if_neg (by simp)]; exact h2 p hp⟩
theorem FBx.done {W : World} (h : FBx w0 B L (fun _ => true) W) : Below B w0 W ∧ ∀ p ∈ L, Bx W p.g p.t p.new := ⟨h.1, fun p hp => by have := h.2 p hp; rwa [if_pos rfl] at this⟩
theorem FBx.cell (p : Bk) (hp : p ∈ L) (he : p.old = p.new) (x : FXN (FBx w0 B L)) (i : Nat) : x.W.cell? ⟨p.g, i, none⟩ = p.old[i]? := by
  obtain ⟨W, f, h⟩ := x
  have := h.2 p hp
  rw [← he] at this
  split at this <;> exact this.cell i
theorem FBx.base (x : FXN (FBx w0 B L)) : Below B w0 x.W := by obtain ⟨W, f, h⟩ := x; exact h.1
variable {P : Program} {k : Nat}
end
section
variable {P : Program} {ops : Array Oper} {rest : List Oper} {o : Oper} {a : Act} {Q : Act → Prop} {F : (Nat → Bool) → World → Prop} {js : List Nat} {k : Nat} {md : Region.Mode}
end
theorem store_int {P : Program} {ty : TypeId} (hi : (P.info? ty).map (·.size) = some 1) (W : World) (ad : Addr) (u0 : Value) (k : IntKind) (n : Int) (hc : W.cell? ad = some u0) (hf : W.frozen? ad = false) : (Instr.storeAt ty (.pointer (some ad)) (.int k n)).run P W = .ok () (W.setCell ad (.int k n)) := by
  obtain ⟨i, hi', e⟩ := Option.map_eq_some_iff.1 hi
  simp [go_sem, hc, hf, sizeOf, typeInfo, hi', e]
end Go.Proofs.Ythlappdngpjdeaa
namespace Go.Proofs.Ythlappdngpjdeaa
open Go Go.RowKit
section
variable {P : Program} {ops : Array Oper} {rest : List Oper} {o : Oper} {a : Act} {Q : Act → Prop} {F : (Nat → Bool) → World → Prop} {js : List Nat} {k : Nat} {md : Region.Mode}
/-- an operation that changes the world, where others that it waits for are done -/
theorem wpN_step (hD : Dep F js) (hi : ops[k]? = some o) (hw : Region.wanted o (yielded ops a.tmps) = true) {v : Value} (dep : List Nat) (hd : (dep.all fun j => o.after.any fun e => Region.binds md e && e.on == j) = true)
    (hs : ∀ f W, F f W → f k = false → (∀ j ∈ dep, f j = true) → ∃ W', (execOp a.eval o).run P W = .ok (.value v) W' ∧ F (fun i => i == k || f i) W') (h : wpF P md ops (CN F) Q rest (k + 1) (a.put o.dst v)) : wpF P md ops (CN F) Q (o :: rest) k a := by
  refine ⟨v, .inl ⟨hw, fun listed W hl hW => ?_⟩, h⟩
  have hk : listed.getD k false = false := by
    have h1 := (mem_ready.1 hl).1
    rcases Nat.lt_or_ge k listed.size with h' | h'
    · simp [h'] at h1 ⊢; exact h1
    · simp [Array.getElem?_eq_none h'] at h1 
  obtain ⟨W', h1, h2⟩ := hs _ W hW hk (fun j hj => ready_after hi (List.all_eq_true.1 hd j hj) hl)
  rw [h1]
  refine ⟨rfl, hD _ _ _ (fun j hj => ?_) h2⟩
  by_cases hjk : j = k
  · subst hjk
    rw [(getD_on (mem_ready.1 hl).1).2]; simp
  · have hne : k ≠ j := Ne.symm hjk
    rw [getD_set_ne false hne]; simp [hjk]
end
/-- one of five worlds, by which of four operations are done, one behind the other -/
def FCh (k1 k2 k3 k4 : Nat) (W0 W1 W2 W3 W4 : World) : (Nat → Bool) → World → Prop := fun f W =>
  (f k2 = true → f k1 = true) ∧ (f k3 = true → f k2 = true) ∧ (f k4 = true → f k3 = true) ∧ W = (if f k4 = true then W4 else if f k3 = true then W3 else if f k2 = true then W2 else if f k1 = true then W1 else W0)
section
variable {k1 k2 k3 k4 : Nat} {W0 W1 W2 W3 W4 : World}
theorem FCh.dep : Dep (FCh k1 k2 k3 k4 W0 W1 W2 W3 W4) [k1, k2, k3, k4] := by
  rintro f g W hfg ⟨h1, h2, h3, h4⟩
  have e1 := hfg k1 (by simp); have e2 := hfg k2 (by simp); have e3 := hfg k3 (by simp); have e4 := hfg k4 (by simp)
  rw [e1, e2] at h1; rw [e2, e3] at h2; rw [e3, e4] at h3; rw [e1, e2, e3, e4] at h4
  exact ⟨h1, h2, h3, h4⟩
theorem FCh.start : FCh k1 k2 k3 k4 W0 W1 W2 W3 W4 (fun _ => false) W0 := ⟨by simp, by simp, by simp, by simp⟩
theorem FCh.done {W : World} (h : FCh k1 k2 k3 k4 W0 W1 W2 W3 W4 (fun _ => true) W) : W = W4 := by have := h.2.2.2; simpa using this
theorem no_of {b c : Bool} (h : b = true → c = true) (hc : c = false) : b = false := by cases b; rfl; rw [h rfl] at hc; cases hc
theorem FCh.s1 (hk : k1 ≠ k2 ∧ k1 ≠ k3 ∧ k1 ≠ k4) {f : Nat → Bool} {W : World} (h : FCh k1 k2 k3 k4 W0 W1 W2 W3 W4 f W) (h0 : f k1 = false) : W = W0 ∧ FCh k1 k2 k3 k4 W0 W1 W2 W3 W4 (fun i => i == k1 || f i) W1 := by
  obtain ⟨a1, a2, a3, a4⟩ := h
  have b2 := no_of a1 h0; have b3 := no_of a2 b2; have b4 := no_of a3 b3
  refine ⟨by rw [a4]; simp [h0, b2, b3, b4], by simp, ?_, ?_, ?_⟩
  · simp only [b3, Bool.or_false]; intro h; rw [beq_iff_eq] at h; exact absurd h.symm hk.2.1
  · simp only [b4, Bool.or_false]; intro h; rw [beq_iff_eq] at h; exact absurd h.symm hk.2.2
  · have e2 : (k2 == k1) = false := by rw [beq_eq_false_iff_ne]; exact hk.1.symm
    have e3 : (k3 == k1) = false := by rw [beq_eq_false_iff_ne]; exact hk.2.1.symm
    have e4 : (k4 == k1) = false := by rw [beq_eq_false_iff_ne]; exact hk.2.2.symm
    simp [b2, b3, b4, e2, e3, e4]
theorem FCh.s2 (hk : k2 ≠ k1 ∧ k2 ≠ k3 ∧ k2 ≠ k4) {f : Nat → Bool} {W : World} (h : FCh k1 k2 k3 k4 W0 W1 W2 W3 W4 f W) (h0 : f k2 = false) (h1 : f k1 = true) : W = W1 ∧ FCh k1 k2 k3 k4 W0 W1 W2 W3 W4 (fun i => i == k2 || f i) W2 := by
  obtain ⟨a1, a2, a3, a4⟩ := h
  have b3 := no_of a2 h0; have b4 := no_of a3 b3
  have e1 : (k1 == k2) = false := by rw [beq_eq_false_iff_ne]; exact hk.1.symm
  have e3 : (k3 == k2) = false := by rw [beq_eq_false_iff_ne]; exact hk.2.1.symm
  have e4 : (k4 == k2) = false := by rw [beq_eq_false_iff_ne]; exact hk.2.2.symm
  exact ⟨by rw [a4]; simp [h0, h1, b3, b4], by simp [h1], by simp, by simp [b4, e4], by simp [b3, b4, e3, e4]⟩
theorem FCh.s3 (hk : k3 ≠ k1 ∧ k3 ≠ k2 ∧ k3 ≠ k4) {f : Nat → Bool} {W : World} (h : FCh k1 k2 k3 k4 W0 W1 W2 W3 W4 f W) (h0 : f k3 = false) (h1 : f k2 = true) : W = W2 ∧ FCh k1 k2 k3 k4 W0 W1 W2 W3 W4 (fun i => i == k3 || f i) W3 := by
  obtain ⟨a1, a2, a3, a4⟩ := h
  have b4 := no_of a3 h0
  have e4 : (k4 == k3) = false := by rw [beq_eq_false_iff_ne]; exact hk.2.2.symm
  exact ⟨by rw [a4]; simp [h0, h1, b4], by simp [a1 h1], by simp [h1], by simp, by simp [b4, e4]⟩
theorem FCh.s4 (hk : k4 ≠ k1 ∧ k4 ≠ k2 ∧ k4 ≠ k3) {f : Nat → Bool} {W : World} (h : FCh k1 k2 k3 k4 W0 W1 W2 W3 W4 f W) (h0 : f k4 = false) (h1 : f k3 = true) : W = W3 ∧ FCh k1 k2 k3 k4 W0 W1 W2 W3 W4 (fun i => i == k4 || f i) W4 := by
  obtain ⟨a1, a2, a3, a4⟩ := h
  exact ⟨by rw [a4]; simp [h0, h1], by simp [a1 (a2 h1)], by simp [a2 h1], by simp [h1], by simp⟩
end
/-- one of four worlds, by which of three operations are done, one behind the other -/
def FC3 (k1 k2 k3 : Nat) (W0 W1 W2 W3 : World) : (Nat → Bool) → World → Prop := fun f W =>
  (f k2 = true → f k1 = true) ∧ (f k3 = true → f k2 = true) ∧ W = (if f k3 = true then W3 else if f k2 = true then W2 else if f k1 = true then W1 else W0)
section
variable {k1 k2 k3 : Nat} {W0 W1 W2 W3 : World}
theorem FC3.dep : Dep (FC3 k1 k2 k3 W0 W1 W2 W3) [k1, k2, k3] := by
  rintro f g W hfg ⟨h1, h2, h4⟩
  have e1 := hfg k1 (by simp); have e2 := hfg k2 (by simp); have e3 := hfg k3 (by simp)
  rw [e1, e2] at h1; rw [e2, e3] at h2; rw [e1, e2, e3] at h4
  exact ⟨h1, h2, h4⟩
theorem FC3.start : FC3 k1 k2 k3 W0 W1 W2 W3 (fun _ => false) W0 := ⟨by simp, by simp, by simp⟩
theorem FC3.done {W : World} (h : FC3 k1 k2 k3 W0 W1 W2 W3 (fun _ => true) W) : W = W3 := by have := h.2.2; simpa using this
theorem FC3.s1 (hk : k1 ≠ k2 ∧ k1 ≠ k3) {f : Nat → Bool} {W : World} (h : FC3 k1 k2 k3 W0 W1 W2 W3 f W) (h0 : f k1 = false) : W = W0 ∧ FC3 k1 k2 k3 W0 W1 W2 W3 (fun i => i == k1 || f i) W1 := by
  obtain ⟨a1, a2, a4⟩ := h
  have b2 := no_of a1 h0; have b3 := no_of a2 b2
  have e2 : (k2 == k1) = false := by rw [beq_eq_false_iff_ne]; exact hk.1.symm
  have e3 : (k3 == k1) = false := by rw [beq_eq_false_iff_ne]; exact hk.2.symm
  exact ⟨by rw [a4]; simp [h0, b2, b3], by simp, by simp [b3, e3], by simp [b2, b3, e2, e3]⟩
theorem FC3.s2 (hk : k2 ≠ k1 ∧ k2 ≠ k3) {f : Nat → Bool} {W : World} (h : FC3 k1 k2 k3 W0 W1 W2 W3 f W) (h0 : f k2 = false) (h1 : f k1 = true) : W = W1 ∧ FC3 k1 k2 k3 W0 W1 W2 W3 (fun i => i == k2 || f i) W2 := by
  obtain ⟨a1, a2, a4⟩ := h
  have b3 := no_of a2 h0
  have e3 : (k3 == k2) = false := by rw [beq_eq_false_iff_ne]; exact hk.2.symm
  exact ⟨by rw [a4]; simp [h0, h1, b3], by simp [h1], by simp, by simp [b3, e3]⟩
theorem FC3.s3 (hk : k3 ≠ k1 ∧ k3 ≠ k2) {f : Nat → Bool} {W : World} (h : FC3 k1 k2 k3 W0 W1 W2 W3 f W) (h0 : f k3 = false) (h1 : f k2 = true) : W = W2 ∧ FC3 k1 k2 k3 W0 W1 W2 W3 (fun i => i == k3 || f i) W3 := by
  obtain ⟨a1, a2, a4⟩ := h
  exact ⟨by rw [a4]; simp [h0, h1], by simp [a1 h1], by simp [h1], by simp⟩
end
end Go.Proofs.Ythlappdngpjdeaa
namespace Go.Proofs.Ythlappdngpjdeaa
open Go Go.RowKit
section
variable {P : Program} {ops : Array Oper} {rest : List Oper} {o : Oper} {a : Act} {Q : Exit → Act → World → Prop} {w : World}
theorem run_append_own2 (base : Nat) (t ty e : TypeId) (i : TypeInfo) (z : Value) (size bytes : Nat) (ht : P.underlying t = some (.slice e)) (hi : P.info? e = some i) (hz : i.zero = some z)
    (hsize : i.size = size) (hby : i.bytes = bytes) (hzs : z.cells.size = size) (hsz : 0 < size) (v : Value) (n : Nat) (xs : List Value) (hown : w.ownsRow base e size v n xs)
    (ad : Addr) (m c : Nat) (news : List Value) (hl : news.length = m * size) (hnews : ∀ j u, news[j]? = some u → w.cell? (ad.add j) = some u) (h1 : ∀ u ∈ news, u.oneCell' = true)
    (h63 : n + m ≤ maxLen) (hbytes : (n + m) * bytes ≤ 140737488355328) (hbase : base ≤ w.heap.size) :
    ∃ v' w', (Builtin.append_ #[t, t] ty #[v, .slice (some ad) m c]).run P w = .ok v' w' ∧ w'.ownsRow base e size v' (n + m) (xs ++ news) ∧ w.grownBy w' v.ownBlock ∧ ∀ g, v'.ownBlock = some g → v.ownBlock = some g ∨ w.heap.size ≤ g := by
  obtain ⟨v', w', hrun, r1, r2, _⟩ := run_append_own (P := P) w base t ty e i z size bytes ht hi hz hsize hby hzs hsz v n xs hown ad m c news hl hnews h1 h63 hbytes hbase
  refine ⟨v', w', hrun, r1, r2, fun g hg => ?_⟩
  rcases hown.2 with ⟨rfl, rfl⟩ | ⟨g0, cap, cur, rfl, hB, hg0, hc, hm, hcs, htk⟩
  · have hxs : xs = [] := List.eq_nil_of_length_eq_zero (by have := hown.1; simpa using this)
    obtain ⟨v2, w2, hrun2, r3, _⟩ := run_append_own (P := P) w w.heap.size t ty e i z size bytes ht hi hz hsize hby hzs hsz (.slice none 0 0) 0 [] (World.ownsRow_nil w _ _ _) ad m c news hl hnews h1 h63 hbytes (Nat.le_refl _)
    rw [hrun] at hrun2
    injection hrun2 with e1 e2
    subst e1; subst e2
    exact .inr (r3.lt g hg).1
  · subst hsize
    have hcell : ∀ j u, xs[j]? = some u → w.cell? ((⟨g0, 0, none⟩ : Addr).add j) = some u := fun j u hu => hown.cells (g := g0) rfl j u hu
    by_cases hroom : n + m ≤ cap
    · have hr := run_append_room_cells (P := P) w t ty e i ht hi g0 0 n cap ad m c news hl hnews h1 hroom (fun j hj => by
        have hlt : 0 + n * i.size + j < cur.size := by
          have : (n + m) * i.size ≤ cap * i.size := Nat.mul_le_mul hroom (Nat.le_refl _)
          rw [Nat.add_mul] at this; rw [hcs]; rw [hl] at hj; omega
        have := cell_of_row w g0 (0 + n * i.size + j) cur e (0, 0) hg0
        rw [this, Array.getElem?_eq_getElem hlt]; rfl) (fun j hj => frozen_of_row w g0 _ cur e hg0)
      rw [hrun] at hr
      injection hr with e1 e2
      subst e1
      exact .inl hg
    · obtain ⟨v2, w2, hrun2, r3, _⟩ := run_append_arg_grows (P := P) w t ty e i z i.size bytes ht hi hz rfl hby hzs hsz ⟨g0, 0, none⟩ n cap xs hown.1 hcell ad m c news hl hnews (by omega) h63 hbytes
      rw [hrun] at hrun2
      injection hrun2 with e1 e2
      subst e1; subst e2
      exact .inr (r3.lt g hg).1
end
end Go.Proofs.Ythlappdngpjdeaa
namespace Go.Proofs.Ythlappdngpjdeaa
open Go.RowKit
def u8 (x : UInt8) : Value := .int .u8 x.toNat
def Byts (w : World) (v : Value) (l : List UInt8) : Prop := Rd w 1 v l.length (l.map u8)
def OwnB (w : World) (base E : Nat) (v : Value) (l : List UInt8) : Prop := w.ownsRow base E 1 v l.length (l.map u8)
theorem one_u8 : (Try.prog.info? 5).map (·.size) = some 1 := by kernel_rfl
theorem info_u8 : (Try.prog.info? 5).map (fun i => (i.zero, i.size, i.bytes)) = some (some (.int .u8 0), 1, 1) := by kernel_rfl
theorem one_u8s (l : List UInt8) : ∀ u ∈ l.map u8, u.oneCell' = true := by
  intro u hu; obtain ⟨x, _, rfl⟩ := List.mem_map.1 hu; rfl
section
variable {P : Program} {w w' : World} {v : Value} {l : List UInt8} {base E : Nat}
theorem OwnB.rd (h : OwnB w base E v l) : Byts w v l := Rd.of_own h
theorem Byts.below (h : Byts w v l) (hb : Below w.heap.size w w') : Byts w' v l := Rd.below h hb
theorem Byts.alloc (h : Byts w v l) (o : Obj) : Byts (w.alloc o) v l := Rd.alloc h o
theorem OwnB.below (h : OwnB w base E v l) (hb : Below w.heap.size w w') : OwnB w' base E v l := own_below h hb
theorem OwnB.nil (w : World) (base E : Nat) : OwnB w base E (.slice none 0 0) [] := World.ownsRow_nil w base E 1
theorem Byts.nil (w : World) : Byts w (.slice none 0 0) [] := Rd.nil w 1
theorem OwnB.of {n : Nat} {xs : List Value} (h : w.ownsRow base E 1 v n xs) (hx : xs = l.map u8) : OwnB w base E v l := by
  subst hx
  have hn : n = l.length := by have := h.1; simp at this; omega
  subst hn; exact h
theorem Byts.at_ {t e : TypeId} (h : Byts w v l) (ht : P.underlying t = some (.slice e)) (hi : (P.info? e).map (·.size) = some 1) {k : Nat} (hk : k < l.length) :
    ∃ ad x, (∀ W, (Instr.indexAt t v (.int .i64 (k : Int))).run P W = .ok (.pointer (some ad)) W) ∧ w.cell? ad = some (.int .u8 (UInt8.toNat x)) ∧ Hid (l[k]? = some x) :=
  ⟨_, l[k], fun W => Rd.ixN h ht hi hk W, by rw [Nat.mul_one]; exact Rd.cell h (by simp [hk]; rfl), by unfold Hid; simp [hk]⟩
end
end Go.Proofs.Ythlappdngpjdeaa
namespace Go.Proofs.Ythlappdngpjdeaa.L05
def byteAt (x : UInt64) (k : Nat) : UInt8 := UInt8.ofNat (x.toNat / 256 ^ k)
theorem byteAt_nat (x : UInt64) (k : Nat) : (byteAt x k).toNat = x.toNat / 256 ^ k % 256 := by
  unfold byteAt; rw [UInt8.toNat_ofNat']
def prime : UInt64 := 1099511628211
def first : UInt64 := 14695981039346656037
def fnv (s : UInt64) (b : UInt8) : UInt64 := (s ^^^ b.toUInt64) * prime
/-- the state behind the first k bytes of a word. -/
def wordTo (s x : UInt64) : Nat → UInt64
  | 0 => s
  | k + 1 => fnv (wordTo s x k) (byteAt x k)
def wordStep (s x : UInt64) : UInt64 := wordTo s x 8
def behind (s : UInt64) (l : List UInt64) : UInt64 := l.foldl wordStep s
def sum (l : List UInt64) : UInt64 := behind first l
theorem behind_snoc (s : UInt64) (l : List UInt64) (x : UInt64) : behind s (l ++ [x]) = wordStep (behind s l) x := by simp [behind]
theorem behind_take {s : UInt64} {l : List UInt64} {k : Nat} {x : UInt64} (h : l[k]? = some x) : behind s (l.take (k + 1)) = wordStep (behind s (l.take k)) x := by
  rw [List.take_add_one, h]; exact behind_snoc _ _ _
theorem fnv_nat (s : UInt64) (b : UInt8) : (fnv s b).toNat = (s.toNat ^^^ b.toNat) * 1099511628211 % 18446744073709551616 := by
  unfold fnv
  rw [UInt64.toNat_mul, UInt64.toNat_xor, UInt8.toNat_toUInt64]
  rfl
theorem first_nat : first.toNat = 14695981039346656037 := by decide
end Go.Proofs.Ythlappdngpjdeaa.L05
namespace Go.Proofs.Ythlappdngpjdeaa.L13
open L05
def kErr (l : List UInt8) : Int := if 8 < l.length then 4 else if ∀ k ∈ l, 1 ≤ k.toNat ∧ k.toNat ≤ 3 then 0 else 8
def kSize (l : List UInt8) : Int := if kErr l = 0 then 2 + ((l.length + 1) / 2 * 2 : Nat) else 0
/-- digits to the base 4, the first one the lowest -/
def fN : List UInt8 → Nat
  | [] => 0
  | k :: l => k.toNat + 4 * fN l
def firstN (l : List UInt8) : Nat := fN l * 256 + l.length
def w0 (l : List UInt8) : UInt64 := if kErr l = 0 then UInt64.ofNat (firstN l) else 0
def w1 (l : List UInt8) : UInt64 := if kErr l = 0 then sum [w0 l] else 0
def nOf (a : UInt64) : Nat := a.toNat % 256
def dig (a : UInt64) (n : Nat) : List UInt8 := (List.range n).map fun i => UInt8.ofNat (a.toNat / 256 / 4 ^ i % 4)
def RdOk (a b : UInt64) : Prop := nOf a ≤ 8 ∧ kErr (dig a (nOf a)) = 0 ∧ w0 (dig a (nOf a)) = a ∧ w1 (dig a (nOf a)) = b
instance (a b : UInt64) : Decidable (RdOk a b) := inferInstanceAs (Decidable (_ ∧ _ ∧ _ ∧ _))
def rdL (a b : UInt64) : List UInt8 := if RdOk a b then dig a (nOf a) else []
def rdE (a b : UInt64) : Int := if RdOk a b then 0 else 50
theorem kErr_ok {l : List UInt8} (h : kErr l = 0) : l.length ≤ 8 ∧ ∀ k ∈ l, 1 ≤ k.toNat ∧ k.toNat ≤ 3 := by
  unfold kErr at h
  split at h
  · omega
  · split at h
    · exact ⟨by omega, by assumption⟩
    · omega
theorem kErr_of {l : List UInt8} (h : l.length ≤ 8) (h2 : ∀ k ∈ l, 1 ≤ k.toNat ∧ k.toNat ≤ 3) : kErr l = 0 := by
  unfold kErr
  rw [if_neg (by omega), if_pos h2]
theorem kErr_many {l : List UInt8} (h : 8 < l.length) : kErr l = 4 := if_pos h
theorem kErr_bad {l : List UInt8} (h : l.length ≤ 8) {k : Nat} {x : UInt8} (hx : l[k]? = some x) (hb : ¬ (1 ≤ x.toNat ∧ x.toNat ≤ 3)) : kErr l = 8 := by
  unfold kErr
  rw [if_neg (by omega), if_neg]
  intro hall
  exact hb (hall x (List.mem_of_getElem? hx))
theorem fN_snoc : ∀ (l : List UInt8) (k : UInt8), fN (l ++ [k]) = fN l + k.toNat * 4 ^ l.length
  | [], k => by simp [fN]
  | x :: l, k => by
    rw [List.cons_append, fN, fN_snoc l k, fN, List.length_cons, Nat.pow_succ]
    have : k.toNat * (4 ^ l.length * 4) = 4 * (k.toNat * 4 ^ l.length) := by rw [← Nat.mul_assoc, Nat.mul_comm]
    omega
theorem fN_lt : ∀ (l : List UInt8), (∀ k ∈ l, k.toNat ≤ 3) → fN l < 4 ^ l.length
  | [], _ => by simp [fN]
  | x :: l, h => by
    have h1 := fN_lt l fun k hk => h k (List.mem_cons_of_mem _ hk)
    have h2 := h x List.mem_cons_self
    rw [fN, List.length_cons, Nat.pow_succ]
    omega
theorem fN_take {l : List UInt8} {k : Nat} {x : UInt8} (hx : l[k]? = some x) : fN (l.take (k + 1)) = fN (l.take k) + x.toNat * 4 ^ k := by
  have hk : k < l.length := (List.getElem?_eq_some_iff.1 hx).1
  rw [List.take_add_one, hx]
  show fN (l.take k ++ [x]) = _
  rw [fN_snoc, List.length_take, Nat.min_eq_left (by omega)]
theorem pow4_le {n : Nat} (h : n ≤ 8) : 4 ^ n ≤ 65536 := Nat.pow_le_pow_right (by omega) h
theorem firstN_lt {l : List UInt8} (h : kErr l = 0) : firstN l < 16777216 := by
  obtain ⟨h1, h2⟩ := kErr_ok h
  have h3 := fN_lt l fun k hk => (h2 k hk).2
  have h4 := pow4_le h1
  unfold firstN
  omega
theorem w0_nat {l : List UInt8} (h : kErr l = 0) : (w0 l).toNat = firstN l := by
  rw [w0, if_pos h, UInt64.toNat_ofNat']
  have := firstN_lt h
  exact Nat.mod_eq_of_lt (by omega)
theorem dig_succ (a : UInt64) (n : Nat) : dig a (n + 1) = dig a n ++ [UInt8.ofNat (a.toNat / 256 / 4 ^ n % 4)] := by
  unfold dig
  rw [List.range_succ, List.map_append]; rfl
theorem dig_len (a : UInt64) (n : Nat) : (dig a n).length = n := by simp [dig]
end Go.Proofs.Ythlappdngpjdeaa.L13
namespace Go.Proofs.Ythlappdngpjdeaa
open Go.RowKit
theorem wrap_u64 (n : Int) : IntKind.u64.wrap n = n % 18446744073709551616 := by
  simp [IntKind.wrap, IntKind.signed, IntKind.bits]
theorem wrap_u8 (n : Int) : IntKind.u8.wrap n = n % 256 := by
  simp [IntKind.wrap, IntKind.signed, IntKind.bits]
theorem toNat_lt (a : UInt64) : a.toNat < 18446744073709551616 := a.toNat_lt
theorem ofInt8 (a : Nat) (h : a < 256) : (BitVec.ofInt 8 (a : Int)).toNat = a := by
  rw [BitVec.ofInt_natCast, BitVec.toNat_ofNat]; exact Nat.mod_eq_of_lt h
theorem bits_xor_u8 {a b : Nat} (ha : a < 256) (hb : b < 256) : bits .xor .u8 (a : Int) (b : Int) = ((a ^^^ b : Nat) : Int) := by
  show IntKind.u8.wrap ((BitVec.ofInt 8 (a : Int) ^^^ BitVec.ofInt 8 (b : Int)).toNat : Int) = _
  rw [BitVec.toNat_xor, ofInt8 a ha, ofInt8 b hb, wrap_u8]
  have : a ^^^ b < 2 ^ 8 := Nat.xor_lt_two_pow (by omega) (by omega)
  omega
theorem bits_xor_u64n {a b : Nat} (ha : a < 18446744073709551616) (hb : b < 18446744073709551616) : bits .xor .u64 (a : Int) (b : Int) = ((a ^^^ b : Nat) : Int) := by
  show IntKind.u64.wrap ((BitVec.ofInt 64 (a : Int) ^^^ BitVec.ofInt 64 (b : Int)).toNat : Int) = _
  rw [BitVec.toNat_xor, BitVec.ofInt_natCast, BitVec.ofInt_natCast, BitVec.toNat_ofNat, BitVec.toNat_ofNat, Nat.mod_eq_of_lt ha, Nat.mod_eq_of_lt hb, wrap_u64]
  have : a ^^^ b < 2 ^ 64 := Nat.xor_lt_two_pow (by omega) (by omega)
  omega
/-- the low byte apart -/
theorem xor_low (s b : Nat) (hb : b < 256) : s ^^^ b = s - s % 256 + ((s % 256) ^^^ b) := by
  have h1 : (s ^^^ b) % 2 ^ 8 = (s % 2 ^ 8) ^^^ (b % 2 ^ 8) := Nat.xor_mod_two_pow
  have h2 : (s ^^^ b) / 2 ^ 8 = (s / 2 ^ 8) ^^^ (b / 2 ^ 8) := Nat.xor_div_two_pow
  rw [Nat.mod_eq_of_lt (show b < 2 ^ 8 by omega)] at h1
  rw [Nat.div_eq_of_lt (show b < 2 ^ 8 by omega), Nat.xor_zero] at h2
  simp only [show (2 : Nat) ^ 8 = 256 from rfl] at h1 h2
  omega
theorem bits_or_u64n {a b : Nat} (ha : a < 18446744073709551616) (hb : b < 18446744073709551616) : bits .or .u64 (a : Int) (b : Int) = ((a ||| b : Nat) : Int) := by
  show IntKind.u64.wrap ((BitVec.ofInt 64 (a : Int) ||| BitVec.ofInt 64 (b : Int)).toNat : Int) = _
  rw [BitVec.toNat_or, BitVec.ofInt_natCast, BitVec.ofInt_natCast, BitVec.toNat_ofNat, BitVec.toNat_ofNat, Nat.mod_eq_of_lt ha, Nat.mod_eq_of_lt hb, wrap_u64]
  have : a ||| b < 2 ^ 64 := Nat.or_lt_two_pow (by omega) (by omega)
  omega
theorem bits_and_u64n {a b : Nat} (ha : a < 18446744073709551616) (hb : b < 18446744073709551616) : bits .and .u64 (a : Int) (b : Int) = ((a &&& b : Nat) : Int) := by
  show IntKind.u64.wrap ((BitVec.ofInt 64 (a : Int) &&& BitVec.ofInt 64 (b : Int)).toNat : Int) = _
  rw [BitVec.toNat_and, BitVec.ofInt_natCast, BitVec.ofInt_natCast, BitVec.toNat_ofNat, BitVec.toNat_ofNat, Nat.mod_eq_of_lt ha, Nat.mod_eq_of_lt hb, wrap_u64]
  have : a &&& b < 2 ^ 64 := Nat.and_lt_two_pow _ (by omega)
  omega
/-- 'or' of parts that lie apart is their sum; 'and' with a mask is a remainder. -/
theorem or_int {a b : Int} (k : Nat) (c : Nat) (h0 : 0 ≤ a) (ha : a < ((2 ^ k : Nat) : Int)) (hb : b = ((2 ^ k * c : Nat) : Int)) (hk : a < 18446744073709551616) (hl : b < 18446744073709551616) : bits .or .u64 a b = a + b := by
  obtain ⟨n, rfl⟩ := Int.eq_ofNat_of_zero_le h0
  subst hb
  have hn : n < 2 ^ k := by exact_mod_cast ha
  rw [bits_or_u64n (by omega) (by omega), Nat.or_comm, ← Nat.two_pow_add_eq_or_of_lt hn]
  omega
theorem and_int {a : Int} (k : Nat) (h0 : 0 ≤ a) (ha : a < 18446744073709551616) (m : Int) (hm : m = ((2 ^ k - 1 : Nat) : Int)) (hl : m < 18446744073709551616) : bits .and .u64 a m = a % ((2 ^ k : Nat) : Int) := by
  obtain ⟨n, rfl⟩ := Int.eq_ofNat_of_zero_le h0
  subst hm
  rw [bits_and_u64n (by omega) (by omega), Nat.and_two_pow_sub_one_eq_mod]
  exact Int.natCast_emod n (2 ^ k)
end Go.Proofs.Ythlappdngpjdeaa
namespace Go.Proofs.Ythlappdngpjdeaa
open Go.RowKit L05
/-- The eight bytes of a word, as an array. -/
def bytesV (x : UInt64) : Array Value := #[.int .u8 (x.toNat % 256), .int .u8 (x.toNat / 256 % 256), .int .u8 (x.toNat / 65536 % 256), .int .u8 (x.toNat / 16777216 % 256), .int .u8 (x.toNat / 4294967296 % 256),
  .int .u8 (x.toNat / 1099511627776 % 256), .int .u8 (x.toNat / 281474976710656 % 256), .int .u8 (x.toNat / 72057594037927936)]
set_option maxHeartbeats 1000000 in
theorem Bytes_any (x : UInt64) (w : World) : Calls Try.prog 58 #[.int .u64 x.toNat] w fun e w' => e = .returned (.agg (bytesV x)) ∧ Below w.heap.size w w' := by
  have hx := toNat_lt x
  go_enter Try.func58, Try.ntmps58
  go_wp2
  refine wp_loop_rounds 9 ?_
  iterate 9 (rw [rounds_succ]; go_wp2)
  refine bodyPost_ret (v := .agg (bytesV x)) ?_ rfl ⟨rfl, ?_⟩
  · simp [results, Try.results58, go_sem, bytesV]
  · exact (((Below.refl _ _).alloc (Nat.le_refl _) _).alloc (by simp) _)
set_option maxHeartbeats 1000000 in
theorem BytesR_any (x : UInt64) (w : World) : Calls Try.prog 60 #[.int .u64 x.toNat] w fun e w' => e = .returned (.agg (bytesV x)) ∧ Below w.heap.size w w' := by
  have hx := toNat_lt x
  go_enter Try.func60, Try.ntmps60
  go_wp2
  refine wp_loop_rounds 9 ?_
  iterate 9 (rw [rounds_succ]; go_wp2)
  refine bodyPost_ret (v := .agg (bytesV x)) ?_ rfl ⟨rfl, ?_⟩
  · simp [results, Try.results60, go_sem, bytesV]
    try omega
  · exact (((Below.refl _ _).alloc (Nat.le_refl _) _).alloc (by simp) _)
theorem bytesV_ix0 (x : UInt64) (W : World) : (Instr.index 107 (.agg (bytesV x)) (.int .i64 ((0 : Nat) : Int))).run Try.prog W = .ok (.int .u8 ((x.toNat : Int) % 256)) W := by kernel_rfl
theorem bytesV_ix1 (x : UInt64) (W : World) : (Instr.index 107 (.agg (bytesV x)) (.int .i64 ((1 : Nat) : Int))).run Try.prog W = .ok (.int .u8 ((x.toNat : Int) / 256 % 256)) W := by kernel_rfl
theorem bytesV_ix2 (x : UInt64) (W : World) : (Instr.index 107 (.agg (bytesV x)) (.int .i64 ((2 : Nat) : Int))).run Try.prog W = .ok (.int .u8 ((x.toNat : Int) / 65536 % 256)) W := by kernel_rfl
theorem bytesV_ix3 (x : UInt64) (W : World) : (Instr.index 107 (.agg (bytesV x)) (.int .i64 ((3 : Nat) : Int))).run Try.prog W = .ok (.int .u8 ((x.toNat : Int) / 16777216 % 256)) W := by kernel_rfl
theorem bytesV_ix4 (x : UInt64) (W : World) : (Instr.index 107 (.agg (bytesV x)) (.int .i64 ((4 : Nat) : Int))).run Try.prog W = .ok (.int .u8 ((x.toNat : Int) / 4294967296 % 256)) W := by kernel_rfl
theorem bytesV_ix5 (x : UInt64) (W : World) : (Instr.index 107 (.agg (bytesV x)) (.int .i64 ((5 : Nat) : Int))).run Try.prog W = .ok (.int .u8 ((x.toNat : Int) / 1099511627776 % 256)) W := by kernel_rfl
theorem bytesV_ix6 (x : UInt64) (W : World) : (Instr.index 107 (.agg (bytesV x)) (.int .i64 ((6 : Nat) : Int))).run Try.prog W = .ok (.int .u8 ((x.toNat : Int) / 281474976710656 % 256)) W := by kernel_rfl
theorem bytesV_ix7 (x : UInt64) (W : World) : (Instr.index 107 (.agg (bytesV x)) (.int .i64 ((7 : Nat) : Int))).run Try.prog W = .ok (.int .u8 ((x.toNat : Int) / 72057594037927936)) W := by kernel_rfl
theorem bytesV_ix (x : UInt64) {k : Nat} (hk : k < 8) (W : World) : (Instr.index 107 (.agg (bytesV x)) (.int .i64 (k : Int))).run Try.prog W = .ok (.int .u8 ((byteAt x k).toNat : Int)) W := by
  rw [byteAt_nat]
  have hx := toNat_lt x
  match k, hk with
  | 0, _ => rw [bytesV_ix0]; exact congrArg (fun n => Result.ok (Value.int .u8 n) W) (by simp only [show (256 : Nat) ^ 0 = 1 from rfl]; omega)
  | 1, _ => rw [bytesV_ix1]; exact congrArg (fun n => Result.ok (Value.int .u8 n) W) (by simp only [show (256 : Nat) ^ 1 = 256 from rfl]; omega)
  | 2, _ => rw [bytesV_ix2]; exact congrArg (fun n => Result.ok (Value.int .u8 n) W) (by simp only [show (256 : Nat) ^ 2 = 65536 from rfl]; omega)
  | 3, _ => rw [bytesV_ix3]; exact congrArg (fun n => Result.ok (Value.int .u8 n) W) (by simp only [show (256 : Nat) ^ 3 = 16777216 from rfl]; omega)
  | 4, _ => rw [bytesV_ix4]; exact congrArg (fun n => Result.ok (Value.int .u8 n) W) (by simp only [show (256 : Nat) ^ 4 = 4294967296 from rfl]; omega)
  | 5, _ => rw [bytesV_ix5]; exact congrArg (fun n => Result.ok (Value.int .u8 n) W) (by simp only [show (256 : Nat) ^ 5 = 1099511627776 from rfl]; omega)
  | 6, _ => rw [bytesV_ix6]; exact congrArg (fun n => Result.ok (Value.int .u8 n) W) (by simp only [show (256 : Nat) ^ 6 = 281474976710656 from rfl]; omega)
  | 7, _ => rw [bytesV_ix7]; exact congrArg (fun n => Result.ok (Value.int .u8 n) W) (by simp only [show (256 : Nat) ^ 7 = 72057594037927936 from rfl]; omega)
theorem bytesV_eq (x : UInt64) : bytesV x = #[.int .u8 (byteAt x 0).toNat, .int .u8 (byteAt x 1).toNat, .int .u8 (byteAt x 2).toNat, .int .u8 (byteAt x 3).toNat, .int .u8 (byteAt x 4).toNat, .int .u8 (byteAt x 5).toNat, .int .u8 (byteAt x 6).toNat, .int .u8 (byteAt x 7).toNat] := by
  have hx := toNat_lt x
  simp [byteAt_nat, bytesV]
  omega
theorem fnv_walk (s : UInt64) (q : UInt8) : IntKind.u64.wrap (bits .xor .u64 (s.toNat : Int) (IntKind.u64.wrap (q.toNat : Int)) * 1099511628211) = ((fnv s q).toNat : Int) := by
  have hq := q.toNat_lt
  rw [wrap_u64 (q.toNat : Int), show (q.toNat : Int) % 18446744073709551616 = (q.toNat : Int) by omega, bits_xor_u64n (toNat_lt s) (by omega), wrap_u64, fnv_nat]
  omega
set_option maxHeartbeats 1000000 in
theorem Next_any (s : UInt64) (v : Value) (l : List UInt64) (w : World) (h : Words w v l) (hl : l.length ≤ 2048) :
    Calls Try.prog 51 #[.int .u64 s.toNat, v] w fun e w' => e = .returned (.tuple #[.int .u64 (behind s l).toNat, .int .i64 0]) ∧ Below w.heap.size w w' := by
  have l1 := Rd.len h Try.underlying22
  obtain ⟨N, hN⟩ : ∃ N, N = l.length := ⟨_, rfl⟩
  rw [← hN] at l1 hl
  have HN := Lib.hid hN; have H := Lib.hid h; have B : Below w.heap.size w w := Below.refl _ _
  clear hN h
  go_enter Try.func51, Try.ntmps51
  go_wp2
  go_loopw [0, 15] (fun st i wr => ∃ k : Nat, k ≤ N ∧ i = .int .i64 k ∧ st = .int .u64 (behind s (l.take k)).toNat ∧ Below w.heap.size w wr) (fun _ i _ => N - (intOf i).toNat)
  case atStart => exact ⟨0, Nat.zero_le _, rfl, rfl, B⟩
  case round =>
    obtain ⟨k, hk, rfl, rfl, hbel⟩ := hrel
    by_cases hlt : k < N
    · obtain ⟨ad, x, ia, ca, hx⟩ := (H.out.below hbel).at_ Try.underlying22 one_u64 (k := k) (by have := HN.out; omega)
      have HB := Lib.hid hbel; clear hbel
      go_wp2_with fail
      refine (Bytes_any _ _).mono ?_
      rintro e w2 ⟨rfl, b⟩
      have B2 := HB.out.trans (b.mono HB.out.size)
      have HB2 := Lib.hid B2; clear b B2
      obtain ⟨s0, hs0⟩ : ∃ s0, s0 = behind s (l.take k) := ⟨_, rfl⟩
      rw [← hs0]
      have HS := Lib.hid hs0; clear hs0
      obtain ⟨V, hV⟩ : ∃ V, V = bytesV x := ⟨_, rfl⟩
      rw [← hV]
      have HV := Lib.hid hV; clear hV
      go_wp2
      go_loop [0, 21] (fun st j => ∃ m : Nat, m ≤ 8 ∧ j = .int .i64 m ∧ st = .int .u64 (wordTo s0 x m).toNat) (fun _ j => 8 - (intOf j).toNat)
      case atStart => exact ⟨0, by omega, rfl, rfl⟩
      case round =>
        obtain ⟨m, hm, rfl, rfl⟩ := hrel
        by_cases hm8 : m < 8
        · have hix := bytesV_ix x hm8
          rw [← HV.out] at hix
          obtain ⟨q, hq⟩ : ∃ q, q = byteAt x m := ⟨_, rfl⟩
          rw [← hq] at hix
          obtain ⟨s1, hs1⟩ : ∃ s1, s1 = wordTo s0 x m := ⟨_, rfl⟩
          rw [← hs1]
          have hstep : wordTo s0 x (m + 1) = fnv s1 q := by rw [wordTo, hs1, hq]
          have HST := Lib.hid hstep; clear hstep hs1 hq
          go_wp2
          go_roundw
          case rel => exact ⟨m + 1, by omega, by go_num, by rw [HST.out, fnv_walk]⟩
          case measure => simp [intOf]; omega
        · obtain rfl : m = 8 := by omega
          go_wp2
          go_roundw
          case rel => exact ⟨k + 1, by omega, by go_num, by rw [behind_take hx.out, ← HS.out]; rfl, HB2.out⟩
          case measure => simp [intOf]; omega
    · obtain rfl : k = N := by omega
      have HB := Lib.hid hbel; clear hbel
      go_wp2
      go_ret2
      refine ⟨by rw [HN.out, List.take_length]; rfl, HB.out⟩
theorem Of_any (v : Value) (l : List UInt64) (w : World) (h : Words w v l) (hl : l.length ≤ 2048) :
    Calls Try.prog 46 #[v] w fun e w' => e = .returned (.tuple #[.int .u64 (sum l).toNat, .int .i64 0]) ∧ Below w.heap.size w w' := by
  have hN := Next_any first v l w h hl
  rw [first_nat] at hN
  have HN := Lib.hid hN; clear hN
  obtain ⟨S, hS⟩ : ∃ S, S = sum l := ⟨_, rfl⟩
  rw [← hS]
  have HS := Lib.hid hS; clear hS
  go_enter Try.func46, Try.ntmps46
  go_wp2_with fail
  refine (HN.out).mono ?_
  rw [show behind first l = S from HS.out.symm]
  rintro e w' ⟨rfl, b⟩
  go_wp2
  go_ret2
  exact ⟨rfl, b⟩
theorem Step_any (s : UInt64) (b : UInt8) (w : World) : Calls Try.prog 61 #[.int .u64 s.toNat, .int .u8 b.toNat] w fun e w' => e = .returned (.int .u64 (fnv s b).toNat) ∧ w = w' := by
  have hs := toNat_lt s
  have hb := b.toNat_lt
  obtain ⟨z, hz⟩ : ∃ z : Nat, z = (s.toNat % 256) ^^^ b.toNat := ⟨_, rfl⟩
  have hz1 : bits .xor .u8 ((s.toNat : Int) % 256) (b.toNat : Int) = (z : Int) := by
    rw [hz]; exact bits_xor_u8 (a := s.toNat % 256) (by omega) (by omega)
  have hz2 : z < 256 := by rw [hz]; exact Nat.xor_lt_two_pow (n := 8) (by omega) (by omega)
  have hf : (fnv s b).toNat = (s.toNat - s.toNat % 256 + z) * 1099511628211 % 18446744073709551616 := by rw [fnv_nat, xor_low _ _ (by omega), hz]
  have HF := Lib.hid hf; clear hf hz
  go_enter Try.func61, Try.ntmps61
  go_wp2
  go_ret
  refine ⟨ret_int ?_, rfl⟩
  rw [HF.out]
  first | omega | (rw [wrap_u64]; omega)
set_option maxHeartbeats 1000000 in
theorem Behind_any (s : UInt64) (v : Value) (l : List UInt64) (w : World) (h : Words w v l) (hl : l.length ≤ 2100) :
    Calls Try.prog 59 #[.int .u64 s.toNat, v] w fun e w' => e = .returned (.int .u64 (behind s l).toNat) ∧ Below w.heap.size w w' := by
  have l1 := Rd.len h Try.underlying22
  obtain ⟨N, hN⟩ : ∃ N, N = l.length := ⟨_, rfl⟩
  rw [← hN] at l1 hl
  have HN := Lib.hid hN; have H := Lib.hid h; have B : Below w.heap.size w w := Below.refl _ _
  clear hN h
  go_enter Try.func59, Try.ntmps59
  go_wp2
  go_loopw [0, 5] (fun st i wr => ∃ k : Nat, k ≤ N ∧ i = .int .i64 k ∧ st = .int .u64 (behind s (l.take k)).toNat ∧ Below w.heap.size w wr) (fun _ i _ => N - (intOf i).toNat)
  case atStart => exact ⟨0, Nat.zero_le _, rfl, rfl, B⟩
  case round =>
    obtain ⟨k, hk, rfl, rfl, hbel⟩ := hrel
    by_cases hlt : k < N
    · obtain ⟨ad, x, ia, ca, hx⟩ := (H.out.below hbel).at_ Try.underlying22 one_u64 (k := k) (by have := HN.out; omega)
      have HB := Lib.hid hbel; clear hbel
      go_wp2_with fail
      refine (BytesR_any _ _).mono ?_
      rw [bytesV_eq]
      rintro e w2 ⟨rfl, b⟩
      have B2 := HB.out.trans (b.mono HB.out.size)
      have HB2 := Lib.hid B2; clear b B2
      obtain ⟨s0, hs0⟩ : ∃ s0, s0 = behind s (l.take k) := ⟨_, rfl⟩
      rw [← hs0]
      have HS := Lib.hid hs0; clear hs0
      go_wp2
      refine wp_loop_rounds 9 ?_
      iterate 8 (rw [rounds_succ]; go_wp2_with fail; refine (Step_any _ _ _).mono ?_; rintro e w' ⟨rfl, rfl⟩; go_wp2)
      rw [rounds_succ]
      go_wp2
      go_roundw
      case rel => exact ⟨k + 1, by omega, by go_num, by rw [behind_take hx.out, ← HS.out]; rfl, HB2.out.alloc HB2.out.size _⟩
      case measure => simp [intOf]; omega
    · obtain rfl : k = N := by omega
      have HB := Lib.hid hbel; clear hbel
      go_wp2
      go_ret
      refine ⟨by rw [HN.out, List.take_length]; rfl, HB.out⟩
theorem SumR_any (v : Value) (l : List UInt64) (w : World) (h : Words w v l) (hl : l.length ≤ 2100) :
    Calls Try.prog 56 #[v] w fun e w' => e = .returned (.int .u64 (sum l).toNat) ∧ Below w.heap.size w w' := by
  have hN := Behind_any first v l w h hl
  rw [first_nat] at hN
  have HN := Lib.hid hN; clear hN
  obtain ⟨S, hS⟩ : ∃ S, S = sum l := ⟨_, rfl⟩
  rw [← hS]
  have HS := Lib.hid hS; clear hS
  go_enter Try.func56, Try.ntmps56
  go_wp2_with fail
  refine (HN.out).mono ?_
  rw [show behind first l = S from HS.out.symm]
  rintro e w' ⟨rfl, b⟩
  go_wp2
  go_ret
  exact ⟨rfl, b⟩
end Go.Proofs.Ythlappdngpjdeaa
namespace Go.Proofs.Ythlappdngpjdeaa
open Go.RowKit L02 L05 L13
set_option maxHeartbeats 600000 in
theorem KCheck_any (v : Value) (l : List UInt8) (r : Int) (hr : r = kErr l) (w : World) (h : Byts w v l) : Calls Try.prog 26 #[v] w fun e w' => e = .returned (.int .i64 r) ∧ w = w' := by
  have l1 := Rd.len h Try.underlying44
  obtain ⟨N, hN⟩ : ∃ N, N = l.length := ⟨_, rfl⟩
  rw [← hN] at l1
  have HN := Lib.hid hN; have H := Lib.hid h; have HR := Lib.hid hr; clear hN h hr
  by_cases hbig : 8 < N
  · go_enter Try.func26, Try.ntmps26
    go_wp2
    go_ret
    exact ⟨ret_int (by rw [HR.out, kErr_many (by have := HN.out; omega)]), rfl⟩
  · have hs : N ≤ 8 := by omega
    clear hbig
    go_enter Try.func26, Try.ntmps26
    go_wp2
    go_loop [10] (fun i => ∃ k : Nat, k ≤ N ∧ i = .int .i64 k ∧ Hid (∀ x ∈ l.take k, 1 ≤ x.toNat ∧ x.toNat ≤ 3)) (fun i => N - (intOf i).toNat)
    case atStart => exact ⟨0, Nat.zero_le _, rfl, Lib.hid (by simp)⟩
    case round =>
      obtain ⟨k, hk, rfl, hh⟩ := hrel
      by_cases hlt : k < N
      · obtain ⟨ad, x, ia, ca, hx⟩ := H.out.at_ (P := Try.prog) Try.underlying44 one_u8 (k := k) (by have := HN.out; omega)
        by_cases hg : 1 ≤ x.toNat ∧ x.toNat ≤ 3
        · obtain ⟨h1, h2⟩ := hg
          go_wp2
          go_round
          case rel =>
            refine ⟨k + 1, by omega, by go_num, Lib.hid ?_⟩
            intro y hy
            rw [List.take_add_one, hx.out] at hy
            rcases List.mem_append.1 hy with hy | hy
            · exact hh.out y hy
            · simp at hy; subst hy; exact ⟨h1, h2⟩
          case measure => simp [intOf]; omega
        · have hcase : x.toNat < 1 ∨ 1 ≤ x.toNat ∧ 3 < x.toNat := by omega
          have hb := kErr_bad (by have := HN.out; omega) hx.out hg
          have HB := Lib.hid hb; clear hb hg
          rcases hcase with h1 | ⟨h1, h2⟩
          all_goals
            go_wp2
            go_ret
            exact ⟨ret_int (by rw [HR.out, HB.out]), rfl⟩
      · obtain rfl : k = N := by omega
        go_wp2
        go_ret
        refine ⟨ret_int ?_, rfl⟩
        rw [HR.out, kErr_of (by have := HN.out; omega)]
        have := hh.out
        rw [List.take_of_length_le (by have := HN.out; omega)] at this
        exact this
theorem kErr_len {l : List UInt8} (h : kErr l = 0) : l.length ≤ 8 := (kErr_ok h).1
set_option maxHeartbeats 600000 in
theorem KSize_any (v : Value) (l : List UInt8) (n r : Int) (hn : n = kSize l) (hr : r = kErr l) (w : World) (h : Byts w v l) : Calls Try.prog 13 #[v] w fun e w' => e = .returned (.tuple #[.int .i64 n, .int .i64 r]) ∧ w = w' := by
  have l1 := Rd.len h Try.underlying44
  obtain ⟨N, hN⟩ : ∃ N, N = l.length := ⟨_, rfl⟩
  rw [← hN] at l1
  have CT := fun w h => KCheck_any v l r hr w h
  have HC := Lib.hid CT; have H := Lib.hid h; clear CT h
  by_cases h0 : kErr l = 0
  · have hs : N ≤ 8 := by rw [hN]; exact kErr_len h0
    have hk : n = 2 + ((N + 1) / 2 * 2 : Nat) := by rw [hn, kSize, if_pos h0, hN]
    rw [h0] at hr
    have HK := Lib.hid hk
    subst hr
    clear hn h0 hN hk
    go_enter Try.func13, Try.ntmps13
    go_wp2_with fail
    refine (HC.out _ H.out).mono ?_
    rintro e w' ⟨rfl, rfl⟩
    go_wp2
    go_ret2
    exact ⟨by rw [HK.out]; exact congrArg (fun z => Ending.returned (.tuple #[.int .i64 z, .int .i64 0])) (by omega), rfl⟩
  · have hne : (r != 0) = true := by rw [bne_iff_ne, hr]; exact h0
    have hk : n = 0 := by rw [hn, kSize, if_neg h0]
    subst hk
    clear hn h0 hN hr
    go_enter Try.func13, Try.ntmps13
    go_wp2_with fail
    refine (HC.out _ H.out).mono ?_
    rintro e w' ⟨rfl, rfl⟩
    go_wp2
    go_ret2
    exact ⟨rfl, rfl⟩
end Go.Proofs.Ythlappdngpjdeaa
