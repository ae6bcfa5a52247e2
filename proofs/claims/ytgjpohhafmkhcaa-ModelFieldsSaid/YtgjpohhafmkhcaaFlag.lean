/- Regions that draw their order, some of whose operations change the world: one walk in the order of the text serves every order, if each operation yields one value in every world in which it may come up. No condition; nothing of the program. -/
import Derived.Test.YtgjpohhafmkhcaaRow
import Derived.StillTail
set_option linter.unusedVariables false
set_option linter.unusedSimpArgs false
namespace Go.Proofs.Ytgjpohhafmkhcaa
open Go Go.RowKit

section
variable {P : Program} {ops : Array Oper} {md : Region.Mode} {C : Array Bool → World → Prop}

def uponF (P : Program) (Post : World → Prop) (v : Value) : Result Next → Prop
  | .ok (.value u) w' => u = v ∧ Post w'
  | .ok .skip w' => v = undef ∧ Post w'
  | .ok (.enter f args) w' => Calls P f args w' (fun e w'' => e = .returned v ∧ Post w'')
  | _ => False
def YieldsF (P : Program) (md : Region.Mode) (ops : Array Oper) (C : Array Bool → World → Prop) (i : Nat) (o : Oper) (v : Value) (a : Act) : Prop :=
  (Region.wanted o (yielded ops a.tmps) = true ∧ ∀ listed w, i ∈ Region.ready md ops listed → C listed w → uponF P (C (listed.setIfInBounds i true)) v ((execOp a.eval o).run P w)) ∨
  (Region.wanted o (yielded ops a.tmps) = false ∧ v = undef ∧ ∀ listed w, i ∈ Region.ready md ops listed → C listed w → C (listed.setIfInBounds i true) w)
def qOpF (P : Program) (md : Region.Mode) (ops : Array Oper) (C : Array Bool → World → Prop) (i : Nat) (K : Act → Prop) (a : Act) : Prop :=
  match ops[i]? with
  | none => False
  | some o => ∃ v, YieldsF P md ops C i o v a ∧ K (a.put o.dst v)
theorem qOpF_mono {i : Nat} {a : Act} {K K' : Act → Prop} (h : ∀ a, K a → K' a) (hh : qOpF P md ops C i K a) : qOpF P md ops C i K' a := by
  unfold qOpF at *
  split
  · rename_i ho; simp only [ho] at hh
  · rename_i o ho
    simp only [ho] at hh
    obtain ⟨v, h1, h2⟩ := hh
    exact ⟨v, h1, h _ h2⟩
def wpAnyF (P : Program) (md : Region.Mode) (ops : Array Oper) (C : Array Bool → World → Prop) (Q : Array Bool → Act → Prop) : Nat → Array Bool → Act → Prop
  | 0, listed, a => Region.ready md ops listed = [] ∧ Q listed a
  | fuel + 1, listed, a =>
    (Region.ready md ops listed = [] → Q listed a) ∧
    ∀ i ∈ Region.ready md ops listed, qOpF P md ops C i (wpAnyF P md ops C Q fuel (listed.setIfInBounds i true)) a
theorem wpOp_of_qOpF {i : Nat} {a : Act} {listed : Array Bool} {K : Act → Prop} {K' : Act → World → Prop} {Q' : Exit → Act → World → Prop} {w : World} (hl : i ∈ Region.ready md ops listed) (hC : C listed w)
    (h : ∀ a w', C (listed.setIfInBounds i true) w' → K a → K' a w') (hh : qOpF P md ops C i K a) : wpOp P ops Q' i K' a w := by
  unfold qOpF at hh
  unfold wpOp
  split
  · rename_i ho; simp only [ho] at hh
  · rename_i o ho
    simp only [ho] at hh
    obtain ⟨v, hy, h2⟩ := hh
    rcases hy with ⟨hw, hv⟩ | ⟨hw, rfl, hv⟩
    · rw [if_pos hw]
      left
      have h3 := hv listed w hl hC
      unfold Oper.wp
      generalize (execOp a.eval o).run P w = r at *
      cases r with
      | ok n w' =>
        cases n <;> simp only [uponF] at h3 <;> simp only [Oper.upon]
        case value u => obtain ⟨e1, e2⟩ := h3; rw [e1]; exact h _ _ e2 h2
        case skip => obtain ⟨e1, e2⟩ := h3; rw [← e1]; exact h _ _ e2 h2
        case enter f args => exact h3.mono fun e w'' ⟨he, hw''⟩ => by subst he; exact h _ _ hw'' h2
      | halt x w' => simp only [uponF] at h3
    · rw [if_neg (by rw [hw]; exact Bool.false_ne_true)]
      exact h _ _ (hv listed w hl hC) h2
theorem wpAny_of_F {Q : Array Bool → Act → Prop} {Q' : Exit → Act → World → Prop} (hQ : ∀ listed a w, C listed w → Q listed a → Q' .normal a w) : ∀ (fuel : Nat) (listed : Array Bool) (a : Act) (w : World), C listed w →
    wpAnyF P md ops C Q fuel listed a → wpAny P md ops Q' fuel listed a w
  | 0, _, _, _, hw, h => ⟨h.1, hQ _ _ _ hw h.2⟩
  | fuel + 1, listed, _, _, hw, h => ⟨fun h0 => hQ _ _ _ hw (h.1 h0), fun i hi => wpOp_of_qOpF hi hw (fun a' w' hw' => wpAny_of_F hQ fuel _ a' w' hw') (h.2 i hi)⟩
theorem YieldsF.of_same {i : Nat} {o : Oper} {v : Value} {a a' : Act} (hy : YieldsF P md ops C i o v a) (he : execOp a'.eval o = execOp a.eval o)
    (hw : Region.wanted o (yielded ops a'.tmps) = Region.wanted o (yielded ops a.tmps)) : YieldsF P md ops C i o v a' := by
  unfold YieldsF at *
  rw [he, hw]
  exact hy
theorem qOpF_put {i j : Nat} {oi oj : Oper} {v : Value} (hj : ops[j]? = some oj) (hap : oi.apart ops oj = true)
    (hsi : ∀ cs b, oi.op ≠ .select cs b) (hsj : ∀ cs b, oj.op ≠ .select cs b) {K : Act → Prop} {a : Act}
    (hy : YieldsF P md ops C i oi v a) (h : qOpF P md ops C j K (a.put oi.dst v)) :
    qOpF P md ops C j (fun a' => YieldsF P md ops C i oi v a' ∧ K (a'.put oi.dst v)) a := by
  obtain ⟨h1, h2, h3⟩ := Oper.apart_spec hap
  unfold qOpF at *
  simp only [hj] at *
  obtain ⟨u, hu, hn⟩ := h
  refine ⟨u, hu.of_same ?_ ?_, hy.of_same ?_ ?_, ?_⟩
  · exact (execOp_put oj hsj a oi.dst v h1).symm
  · exact (wanted_put oj a oi.dst v h1).symm
  · exact execOp_put oi hsi a oj.dst u h3
  · exact wanted_put oi a oj.dst u h3
  · rw [← Act.put_comm a v u h2]; exact hn
theorem wpAnyF_first {Q : Array Bool → Act → Prop} {i : Nat} {oi : Oper} {v : Value} (hi : ops[i]? = some oi) (hsel : ∀ (j : Nat) (o : Oper) cs b, ops[j]? = some o → o.op ≠ .select cs b) :
    ∀ (fuel : Nat) (listed : Array Bool) (a : Act),
      (∀ j oj, ops[j]? = some oj → j ≠ i → listed.getD j true = false → (∀ e ∈ oj.after, Region.binds md e = true → e.on ≠ i) → oi.apart ops oj = true) →
      i ∈ Region.ready md ops listed → YieldsF P md ops C i oi v a →
      wpAnyF P md ops C Q fuel (listed.setIfInBounds i true) (a.put oi.dst v) → wpAnyF P md ops C Q (fuel + 1) listed a := by
  intro fuel
  induction fuel with
  | zero =>
    intro listed a _ hr hy H
    refine ⟨fun h => (by rw [h] at hr; cases hr), fun j hj => ?_⟩
    by_cases hji : j = i
    · subst hji
      unfold qOpF; simp only [hi]
      exact ⟨v, hy, H⟩
    · have := ready_mono hj hji
      rw [H.1] at this
      cases this
  | succ fuel ih =>
    intro listed a hfree hr hy H
    refine ⟨fun h => (by rw [h] at hr; cases hr), fun j hj => ?_⟩
    by_cases hji : j = i
    · subst hji
      unfold qOpF; simp only [hi]
      exact ⟨v, hy, H⟩
    · have h1 := H.2 j (ready_mono hj hji)
      obtain ⟨hjun, oj, hoj, hall⟩ := mem_ready.1 hj
      have hnot : ∀ e ∈ oj.after, Region.binds md e = true → e.on ≠ i := fun e he hb heq => by
        have h1 := hall e he hb
        have h0 := (mem_ready.1 hr).1
        rw [heq] at h1
        rcases Nat.lt_or_ge i listed.size with h' | h'
        · simp [h'] at h0 h1; rw [h0] at h1; cases h1
        · simp [Array.getElem?_eq_none h'] at h1
      have h2 := qOpF_put hoj (hfree j oj hoj hji hjun hnot) (fun cs b => hsel i oi cs b hi) (fun cs b => hsel j oj cs b hoj) hy h1
      have hfree' : ∀ k ok, ops[k]? = some ok → k ≠ i → (listed.setIfInBounds j true).getD k true = false →
          (∀ e ∈ ok.after, Region.binds md e = true → e.on ≠ i) → oi.apart ops ok = true := fun k ok hk hki hun hno => by
        refine hfree k ok hk hki ?_ hno
        by_cases hjk : j = k
        · subst hjk; exact hjun
        · rw [getD_set_ne true hjk] at hun; exact hun
      refine qOpF_mono (fun a' h3 => ih (listed.setIfInBounds j true) a' hfree' (ready_mono hr (Ne.symm hji)) h3.1 ?_) h2
      rw [Array.setIfInBounds_comm _ _ hji]
      exact h3.2
/-- the walk in the order of the text, number k first -/
def wpF (P : Program) (md : Region.Mode) (ops : Array Oper) (C : Array Bool → World → Prop) (Q : Act → Prop) : List Oper → Nat → Act → Prop
  | [], _, a => Q a
  | o :: rest, k, a => ∃ v, YieldsF P md ops C k o v a ∧ wpF P md ops C Q rest (k + 1) (a.put o.dst v)
def setAll : Nat → Nat → Array Bool → Array Bool
  | 0, _, l => l
  | n + 1, k, l => setAll n (k + 1) (l.setIfInBounds k true)
theorem wpAnyF_lex {Q : Array Bool → Act → Prop} (hs : Region.noSelect ops = true) : ∀ (l : List Oper) (k : Nat) (listed : Array Bool) (a : Act), (∀ j, l[j]? = ops[k + j]?) →
    Region.lexFrom md ops l.length k listed = true → wpF P md ops C (Q (setAll l.length k listed)) l k a → wpAnyF P md ops C Q l.length listed a
  | [], _, _, _, _, hB, h => ⟨by simpa [Region.lexFrom] using hB, h⟩
  | o :: l, k, listed, a, hl, hB, h => by
    have h0 : ops[k]? = some o := by simpa using (hl 0).symm
    simp only [List.length_cons, Region.lexFrom, Bool.and_eq_true] at hB
    obtain ⟨⟨hr, hf⟩, hB'⟩ := hB
    obtain ⟨v, hy, hK⟩ := h
    exact wpAnyF_first h0 (Region.noSelect_spec hs) l.length listed a (Region.free_spec h0 hf) (by simpa using hr) hy
      (wpAnyF_lex hs l (k + 1) _ _ (fun j => by have := hl (j + 1); simpa [Nat.add_assoc, Nat.add_comm 1 j] using this) hB' hK)
theorem wp_region_F {id : Nat} {Q : Exit → Act → World → Prop} {a : Act} {w : World} {l : List Oper} (C : Array Bool → World → Prop) (hm : P.follows .mixedOrders = true) (hB : Region.lexB .any l.toArray = true)
    (hC : C (Array.replicate l.length false) { w with drawn := w.drawn + 1 })
    (h : wpF P .any l.toArray C (fun a' => ∀ w', C (setAll l.length 0 (Array.replicate l.length false)) w' → Q .normal a' w') l 0 a) : (Code.region id l.toArray true).wp P Q a w := by
  simp only [Region.lexB, Bool.and_eq_true] at hB
  refine wp_region_any hm (wpAny_of_F (C := C) (Q := fun listed a' => ∀ w', C listed w' → Q .normal a' w') (fun _ _ w' hw' h => h w' hw') _ _ _ _ (by simpa using hC) ?_)
  have := wpAnyF_lex (C := C) (md := .any) (Q := fun listed a' => ∀ w', C listed w' → Q .normal a' w') hB.1 l 0 (Array.replicate l.length false) a (by simp) (by simpa using hB.2) h
  simpa using this
end

/-! two flagged operations, numbers j1, j2 (a number that no operation bears: none) -/
/-- the operations that yield a value without entering a function -/
def isV : Op → Bool
  | .move _ | .assign _ | .pick .. | .build .. | .load .. | .binOp .. | .unOp .. | .convert .. | .slice .. | .fieldAddr .. | .field .. | .indexAddr .. | .index .. | .extract .. | .sliceToArrayPointer .. => true
  | _ => false
theorem run_v {P : Program} {s : Sem Value} {w w' : World} {n : Next} (h : (do pure (Next.value (← s)) : Sem Next).run P w = .ok n w') : ∃ u, n = .value u := by
  rw [Sem.run_bind] at h
  cases hs : s.run P w with
  | ok u w1 => rw [hs] at h; simp [Result.andThen] at h; exact ⟨u, h.1.symm⟩
  | halt x w1 => rw [hs] at h; simp [Result.andThen] at h
theorem isV_value {P : Program} {o : Oper} {ev : Operand → Value} {w w' : World} {n : Next} (hV : isV o.op = true) (h : (execOp ev o).run P w = .ok n w') : ∃ u, n = .value u := by
  unfold execOp at h
  cases ho : o.op <;> rw [ho] at h hV <;> simp only [isV, Bool.false_eq_true] at hV <;> dsimp only at h
  case move x => simp at h; exact ⟨_, h.1.symm⟩
  case assign x => simp at h; exact ⟨_, h.1.symm⟩
  case pick c x y =>
    rw [Sem.run_bind] at h
    cases hs : (asBool (ev c)).run P w with
    | ok u w1 => rw [hs] at h; simp [Result.andThen] at h; exact ⟨_, h.1.symm⟩
    | halt x w1 => rw [hs] at h; simp [Result.andThen] at h
  all_goals exact run_v h
structure FX (F : Bool → Bool → World → Prop) where
  W : World
  h : ∃ b1 b2, F b1 b2 W
def CF (F : Bool → Bool → World → Prop) (j1 j2 : Nat) : Array Bool → World → Prop := fun listed W => F (listed.getD j1 false) (listed.getD j2 false) W
section
variable {P : Program} {ops : Array Oper} {rest : List Oper} {o : Oper} {a : Act} {Q : Act → Prop} {F : Bool → Bool → World → Prop} {j1 j2 k : Nat} {md : Region.Mode}
/-- an operation that only reads -/
theorem wpF_read (hV : isV o.op = true) (hk : (k != j1 && k != j2) = true) (h : wpQuiet P ops (fun W => ∃ x : FX F, W = x.W) (fun a' => wpF P md ops (CF F j1 j2) Q rest (k + 1) a') [o] a) : wpF P md ops (CF F j1 j2) Q (o :: rest) k a := by
  simp only [Bool.and_eq_true, bne_iff_ne] at hk
  have hset : ∀ listed W, CF F j1 j2 listed W → CF F j1 j2 (listed.setIfInBounds k true) W := fun listed W hW => by
    unfold CF at *
    rw [getD_set_ne false hk.1, getD_set_ne false hk.2]; exact hW
  unfold wpQuiet at h
  split at h
  · rename_i hw
    obtain ⟨v, h1, h2⟩ := h
    refine ⟨v, .inl ⟨hw, fun listed W hl hW => ?_⟩, h2⟩
    have h3 := h1 W ⟨⟨W, _, _, hW⟩, rfl⟩
    unfold Oper.quietAt at h3
    cases hr : (execOp a.eval o).run P W with
    | ok n w' =>
      obtain ⟨u, rfl⟩ := isV_value hV hr
      rw [hr] at h3
      simp only [Oper.quietUpon] at h3
      simp only [uponF]
      obtain ⟨e1, e2⟩ := h3
      subst e1
      exact ⟨e2, hset _ _ hW⟩
    | halt x w' => rw [hr] at h3; simp only [Oper.quietUpon] at h3
  · rename_i hw
    exact ⟨undef, .inr ⟨by simpa using hw, rfl, fun listed W hl hW => hset _ _ hW⟩, h⟩
theorem ready_after {i j : Nat} {oi : Oper} {listed : Array Bool} (hi : ops[i]? = some oi) (hd : (oi.after.any fun e => Region.binds md e && e.on == j) = true) (hr : i ∈ Region.ready md ops listed) : listed.getD j false = true := by
  obtain ⟨_, o', ho', hall⟩ := mem_ready.1 hr
  have : o' = oi := Option.some.inj (ho'.symm.trans hi)
  subst this
  obtain ⟨e, he, hb⟩ := Array.any_eq_true'.1 hd
  simp only [Bool.and_eq_true, beq_iff_eq] at hb
  rw [← hb.2]; exact hall e he hb.1
structure FX1 (F : Bool → Bool → World → Prop) where
  W : World
  h : ∃ b2, F true b2 W
/-- an operation that only reads, and waits for the flagged one -/
theorem wpF_read1 (hV : isV o.op = true) (hk : (k != j1 && k != j2) = true) (hi : ops[k]? = some o) (hd : (o.after.any fun e => Region.binds md e && e.on == j1) = true)
    (h : wpQuiet P ops (fun W => ∃ x : FX1 F, W = x.W) (fun a' => wpF P md ops (CF F j1 j2) Q rest (k + 1) a') [o] a) : wpF P md ops (CF F j1 j2) Q (o :: rest) k a := by
  simp only [Bool.and_eq_true, bne_iff_ne] at hk
  have hset : ∀ listed W, CF F j1 j2 listed W → CF F j1 j2 (listed.setIfInBounds k true) W := fun listed W hW => by
    unfold CF at *
    rw [getD_set_ne false hk.1, getD_set_ne false hk.2]; exact hW
  unfold wpQuiet at h
  split at h
  · rename_i hw
    obtain ⟨v, h1, h2⟩ := h
    refine ⟨v, .inl ⟨hw, fun listed W hl hW => ?_⟩, h2⟩
    have hon := ready_after hi hd hl
    have h3 := h1 W ⟨⟨W, _, by have h4 := hW; unfold CF at h4; rw [hon] at h4; exact h4⟩, rfl⟩
    unfold Oper.quietAt at h3
    cases hr : (execOp a.eval o).run P W with
    | ok n w' =>
      obtain ⟨u, rfl⟩ := isV_value hV hr
      rw [hr] at h3
      simp only [Oper.quietUpon] at h3
      simp only [uponF]
      obtain ⟨e1, e2⟩ := h3
      subst e1
      exact ⟨e2, hset _ _ hW⟩
    | halt x w' => rw [hr] at h3; simp only [Oper.quietUpon] at h3
  · rename_i hw
    exact ⟨undef, .inr ⟨by simpa using hw, rfl, fun listed W hl hW => hset _ _ hW⟩, h⟩
/-- an operation that is passed over -/
theorem wpF_skip (hw : Region.wanted o (yielded ops a.tmps) = false) (hk : (k != j1 && k != j2) = true) (h : wpF P md ops (CF F j1 j2) Q rest (k + 1) (a.put o.dst undef)) : wpF P md ops (CF F j1 j2) Q (o :: rest) k a := by
  simp only [Bool.and_eq_true, bne_iff_ne] at hk
  refine ⟨undef, .inr ⟨hw, rfl, fun listed W hl hW => ?_⟩, h⟩
  unfold CF at *
  rw [getD_set_ne false hk.1, getD_set_ne false hk.2]; exact hW
/-- a call, whatever was done before -/
theorem wpF_call {dst : Option Tmp} {f : FuncId} {xs : Array Operand} {ats : Array TypeId} {ty : TypeId} {pos : String} {after : Array Edge} {g : Option (Nat × Bool)} (av : Array Value) (v : Value) (hw : Region.wanted ⟨dst, .call ⟨.value (.func f), xs, ats⟩, ty, pos, after, g⟩ (yielded ops a.tmps) = true) (hk : (k != j1 && k != j2) = true) (hav : xs.map a.eval = av) (hcf : ∀ W, (callFunc f (#[] ++ av ++ #[])).run P W = .ok (.enter f av) W)
    (hc : ∀ b1 b2 W, F b1 b2 W → Calls P f av W (fun e W' => e = .returned v ∧ F b1 b2 W')) (h : wpF P md ops (CF F j1 j2) Q rest (k + 1) (a.put dst v)) : wpF P md ops (CF F j1 j2) Q (⟨dst, .call ⟨.value (.func f), xs, ats⟩, ty, pos, after, g⟩ :: rest) k a := by
  simp only [Bool.and_eq_true, bne_iff_ne] at hk
  refine ⟨v, .inl ⟨hw, fun listed W hl hW => ?_⟩, h⟩
  rw [execOp_call_go, hav, hcf]
  show Calls P f av W _
  refine (hc _ _ W hW).mono fun e W' ⟨h1, h2⟩ => ⟨h1, ?_⟩
  unfold CF
  rw [getD_set_ne false hk.1, getD_set_ne false hk.2]; exact h2
theorem getD_on {listed : Array Bool} {i : Nat} (h : listed.getD i true = false) : listed.getD i false = false ∧ (listed.setIfInBounds i true).getD i false = true := by
  rcases Nat.lt_or_ge i listed.size with h' | h'
  · simp [h'] at h ⊢; exact h
  · simp [Array.getElem?_eq_none h'] at h
/-- the flagged call: before it, behind it -/
theorem wpF_call1 {dst : Option Tmp} {f : FuncId} {xs : Array Operand} {ats : Array TypeId} {ty : TypeId} {pos : String} {after : Array Edge} {g : Option (Nat × Bool)} (av : Array Value) (v : Value) (hw : Region.wanted ⟨dst, .call ⟨.value (.func f), xs, ats⟩, ty, pos, after, g⟩ (yielded ops a.tmps) = true) (hj : j1 ≠ j2) (hav : xs.map a.eval = av) (hcf : ∀ W, (callFunc f (#[] ++ av ++ #[])).run P W = .ok (.enter f av) W)
    (hc : ∀ b2 W, F false b2 W → Calls P f av W (fun e W' => e = .returned v ∧ F true b2 W')) (h : wpF P md ops (CF F j1 j2) Q rest (j1 + 1) (a.put dst v)) : wpF P md ops (CF F j1 j2) Q (⟨dst, .call ⟨.value (.func f), xs, ats⟩, ty, pos, after, g⟩ :: rest) j1 a := by
  refine ⟨v, .inl ⟨hw, fun listed W hl hW => ?_⟩, h⟩
  obtain ⟨g1, g2⟩ := getD_on (mem_ready.1 hl).1
  unfold CF at hW ⊢
  rw [g1] at hW
  rw [execOp_call_go, hav, hcf]
  show Calls P f av W _
  refine (hc _ W hW).mono fun e W' ⟨h1, h2⟩ => ⟨h1, ?_⟩
  rw [g2, getD_set_ne false hj]; exact h2
/-- a flagged store -/
theorem wpF_store1 (ty : TypeId) (x y : Operand) (ho : o.op = .store ty x y) (hw : Region.wanted o (yielded ops a.tmps) = true) (hj : j1 ≠ j2) {p u : Value} (hx : a.eval x = p) (hy : a.eval y = u)
    (hs : ∀ b2 W, F false b2 W → ∃ W', (Instr.storeAt ty p u).run P W = .ok () W' ∧ F true b2 W') (h : wpF P md ops (CF F j1 j2) Q rest (j1 + 1) (a.put o.dst undef)) : wpF P md ops (CF F j1 j2) Q (o :: rest) j1 a := by
  refine ⟨undef, .inl ⟨hw, fun listed W hl hW => ?_⟩, h⟩
  obtain ⟨g1, g2⟩ := getD_on (mem_ready.1 hl).1
  unfold CF at hW ⊢
  rw [g1] at hW
  obtain ⟨W', h1, h2⟩ := hs _ W hW
  unfold execOp
  simp only [ho, hx, hy, Sem.run_bind, h1, Result.andThen_ok, Sem.run_pure, uponF, true_and]
  rw [g2, getD_set_ne false hj]; exact h2
theorem wpF_store2 (ty : TypeId) (x y : Operand) (ho : o.op = .store ty x y) (hw : Region.wanted o (yielded ops a.tmps) = true) (hj : j2 ≠ j1) {p u : Value} (hx : a.eval x = p) (hy : a.eval y = u)
    (hs : ∀ b1 W, F b1 false W → ∃ W', (Instr.storeAt ty p u).run P W = .ok () W' ∧ F b1 true W') (h : wpF P md ops (CF F j1 j2) Q rest (j2 + 1) (a.put o.dst undef)) : wpF P md ops (CF F j1 j2) Q (o :: rest) j2 a := by
  refine ⟨undef, .inl ⟨hw, fun listed W hl hW => ?_⟩, h⟩
  obtain ⟨g1, g2⟩ := getD_on (mem_ready.1 hl).1
  unfold CF at hW ⊢
  rw [g1] at hW
  obtain ⟨W', h1, h2⟩ := hs _ W hW
  unfold execOp
  simp only [ho, hx, hy, Sem.run_bind, h1, Result.andThen_ok, Sem.run_pure, uponF, true_and]
  rw [g2, getD_set_ne false hj]; exact h2
end
/-- the region: F false false where it begins; behind it F with the flags of the numbers that it has -/
theorem wp_region_flag {P : Program} {id : Nat} {Q : Exit → Act → World → Prop} {a : Act} {w : World} {l : List Oper} (F : Bool → Bool → World → Prop) (j1 j2 : Nat) (hm : P.follows .mixedOrders = true) (hB : Region.lexB .any l.toArray = true)
    (f1 f2 : Bool) (hf : (setAll l.length 0 (Array.replicate l.length false)).getD j1 false = f1 ∧ (setAll l.length 0 (Array.replicate l.length false)).getD j2 false = f2)
    (hC : F false false w.drew)
    (h : wpF P .any l.toArray (CF F j1 j2) (fun a' => ∀ w', F f1 f2 w' → Q .normal a' w') l 0 a) : (Code.region id l.toArray true).wp P Q a w := by
  refine wp_region_F (CF F j1 j2) hm hB ?_ ?_
  · unfold CF
    have e : ∀ j, (Array.replicate l.length false).getD j false = false := fun j => getD_replicate_false _ _
    rw [e, e]; exact hC
  · unfold CF
    rw [hf.1, hf.2]; exact h
/-- the flagged operation is a call that makes just one block -/
def FNew (w0 : World) (t : TypeId) (cs : Array Value) : Bool → Bool → World → Prop := fun b1 _ W => Below w0.heap.size w0 W ∧ (b1 = false → W.heap.size = w0.heap.size) ∧ (b1 = true → Bx W w0.heap.size t cs)
theorem FNew.start (w0 : World) (t : TypeId) (cs : Array Value) : FNew w0 t cs false false w0.drew := ⟨(Below.refl _ _).drew, fun _ => rfl, (fun h => by cases h)⟩
theorem FNew.below {w0 : World} {t : TypeId} {cs : Array Value} (x : FX (FNew w0 t cs)) : Below w0.heap.size w0 x.W := by obtain ⟨W, b1, b2, h⟩ := x; exact h.1
theorem FNew.below1 {w0 : World} {t : TypeId} {cs : Array Value} (x : FX1 (FNew w0 t cs)) : Below w0.heap.size w0 x.W ∧ Bx x.W w0.heap.size t cs := by obtain ⟨W, b2, h⟩ := x; exact ⟨h.1, h.2.2 rfl⟩
instance (w0 : World) (t : TypeId) (cs : Array Value) : Nonempty (FX (FNew w0 t cs)) := ⟨⟨w0.drew, false, false, FNew.start w0 t cs⟩⟩
instance (w0 : World) (t : TypeId) (cs : Array Value) : Nonempty (FX1 (FNew w0 t cs)) := ⟨⟨w0.alloc (.cells cs t), false, (Below.refl _ _).alloc (Nat.le_refl _) _, (fun h => by cases h), fun _ => Bx.new _ _ _⟩⟩
theorem FNew.call {P : Program} {f : FuncId} {av : Array Value} {w0 : World} {t : TypeId} {cs : Array Value} {n c : Nat}
    (h : ∀ W, Calls P f av W (fun e w' => e = .returned (.slice (some ⟨W.heap.size, 0, none⟩) n c) ∧ Bx w' W.heap.size t cs ∧ Below W.heap.size W w')) (b2 : Bool) (W : World) (hW : FNew w0 t cs false b2 W) :
    Calls P f av W (fun e W' => e = .returned (.slice (some ⟨w0.heap.size, 0, none⟩) n c) ∧ FNew w0 t cs true b2 W') := by
  have hz := hW.2.1 rfl
  refine (h W).mono fun e w' ⟨h1, h2, h3⟩ => ?_
  rw [hz] at h1 h2
  exact ⟨h1, hW.1.trans (h3.mono (by rw [hz]; exact Nat.le_refl _)), (fun h => by cases h), fun _ => h2⟩
end Go.Proofs.Ytgjpohhafmkhcaa
