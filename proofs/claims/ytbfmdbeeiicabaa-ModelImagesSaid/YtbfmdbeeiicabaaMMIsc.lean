/- Contracts of the functions that the law 'ModelImages' reaches, part 3. No condition. -/
import Derived.Test.YtbfmdbeeiicabaaMMIsb
set_option linter.unusedVariables false
set_option linter.unusedSimpArgs false
namespace Go.Proofs.Ytbfmdbeeiicabaa
open Go Go.RowKit
section
variable {P : Program} {ops : Array Oper} {md : Region.Mode}
def uponV (Post : World → Prop) (v : Value) : Result Next → Prop
  | .ok (.value u) w' => u = v ∧ Post w'
  | .ok .skip w' => v = undef ∧ Post w'
  | _ => False
def YieldsV (P : Program) (md : Region.Mode) (ops : Array Oper) (C : Array Bool → World → Prop) (i : Nat) (o : Oper) (v : Value) (a : Act) : Prop :=
  (Region.wanted o (yielded ops a.tmps) = true ∧ ∀ listed w, i ∈ Region.ready md ops listed → C listed w → uponV (C (listed.setIfInBounds i true)) v ((execOp a.eval o).run P w)) ∨
  (Region.wanted o (yielded ops a.tmps) = false ∧ v = undef ∧ ∀ listed w, i ∈ Region.ready md ops listed → C listed w → C (listed.setIfInBounds i true) w)
/-- number k0 yields the value x, whatever its world; the others as they do -/
def YieldsG (P : Program) (md : Region.Mode) (ops : Array Oper) (C : Array Bool → World → Prop) (k0 : Nat) (x : Value) (i : Nat) (o : Oper) (v : Value) (a : Act) : Prop :=
  (i = k0 ∧ v = x ∧ Region.wanted o (yielded ops a.tmps) = true) ∨ (i ≠ k0 ∧ YieldsV P md ops C i o v a)
theorem YieldsV.of_same {C : Array Bool → World → Prop} {i : Nat} {o : Oper} {v : Value} {a a' : Act} (hy : YieldsV P md ops C i o v a) (he : execOp a'.eval o = execOp a.eval o)
    (hw : Region.wanted o (yielded ops a'.tmps) = Region.wanted o (yielded ops a.tmps)) : YieldsV P md ops C i o v a' := by
  unfold YieldsV at *
  rw [he, hw]
  exact hy
/-- what is known of the operation k0: whatever it runs on, it runs alike at two acts -/
def G0 (k0 : Nat) (T : Act → Prop) (ops : Array Oper) : Prop := ∀ o, ops[k0]? = some o → ∀ a a' : Act, execOp a'.eval o = execOp a.eval o → T a → T a'
theorem YieldsG.of_same {C : Array Bool → World → Prop} {k0 : Nat} {x : Value} {i : Nat} {o : Oper} {v : Value} {a a' : Act} (hy : YieldsG P md ops C k0 x i o v a) (he : execOp a'.eval o = execOp a.eval o)
    (hw : Region.wanted o (yielded ops a'.tmps) = Region.wanted o (yielded ops a.tmps)) : YieldsG P md ops C k0 x i o v a' := by
  rcases hy with ⟨h1, h2, h3⟩ | ⟨h1, h2⟩
  · exact .inl ⟨h1, h2, by rw [hw]; exact h3⟩
  · exact .inr ⟨h1, h2.of_same he hw⟩
/-- T a: what the operation k0 does at the act a -/
def qOpG (P : Program) (md : Region.Mode) (ops : Array Oper) (C : Array Bool → World → Prop) (k0 : Nat) (x : Value) (T : Sem Next → Prop) (i : Nat) (K : Act → Prop) (a : Act) : Prop :=
  match ops[i]? with
  | none => False
  | some o => ∃ v, (YieldsG P md ops C k0 x i o v a ∧ (i = k0 → T (execOp a.eval o))) ∧ K (a.put o.dst v)
variable {C : Array Bool → World → Prop} {k0 : Nat} {x : Value} {T : Sem Next → Prop}
theorem qOpG_mono {i : Nat} {a : Act} {K K' : Act → Prop} (h : ∀ a, K a → K' a) (hh : qOpG P md ops C k0 x T i K a) : qOpG P md ops C k0 x T i K' a := by
  unfold qOpG at *
  split
  · rename_i ho; simp only [ho] at hh
  · rename_i o ho
    simp only [ho] at hh
    obtain ⟨v, h1, h2⟩ := hh
    exact ⟨v, h1, h _ h2⟩
def wpAnyG (P : Program) (md : Region.Mode) (ops : Array Oper) (C : Array Bool → World → Prop) (k0 : Nat) (x : Value) (T : Sem Next → Prop) (Q : Array Bool → Act → Prop) : Nat → Array Bool → Act → Prop
  | 0, listed, a => Region.ready md ops listed = [] ∧ Q listed a
  | fuel + 1, listed, a =>
    (Region.ready md ops listed = [] → Q listed a) ∧
    ∀ i ∈ Region.ready md ops listed, qOpG P md ops C k0 x T i (wpAnyG P md ops C k0 x T Q fuel (listed.setIfInBounds i true)) a
theorem qOpG_put {i j : Nat} {oi oj : Oper} {v : Value} (hj : ops[j]? = some oj) (hap : oi.apart ops oj = true)
    (hsi : ∀ cs b, oi.op ≠ .select cs b) (hsj : ∀ cs b, oj.op ≠ .select cs b) {K : Act → Prop} {a : Act}
    (hy : YieldsG P md ops C k0 x i oi v a ∧ (i = k0 → T (execOp a.eval oi))) (h : qOpG P md ops C k0 x T j K (a.put oi.dst v)) :
    qOpG P md ops C k0 x T j (fun a' => (YieldsG P md ops C k0 x i oi v a' ∧ (i = k0 → T (execOp a'.eval oi))) ∧ K (a'.put oi.dst v)) a := by
  obtain ⟨h1, h2, h3⟩ := Oper.apart_spec hap
  unfold qOpG at *
  simp only [hj] at *
  obtain ⟨u, ⟨hu, hu2⟩, hn⟩ := h
  refine ⟨u, ⟨hu.of_same ?_ ?_, fun e => ?_⟩, ⟨hy.1.of_same ?_ ?_, fun e => ?_⟩, ?_⟩
  · exact (execOp_put oj hsj a oi.dst v h1).symm
  · exact (wanted_put oj a oi.dst v h1).symm
  · have := hu2 e; rwa [execOp_put oj hsj a oi.dst v h1] at this
  · exact execOp_put oi hsi a oj.dst u h3
  · exact wanted_put oi a oj.dst u h3
  · have := hy.2 e; rwa [execOp_put oi hsi a oj.dst u h3]
  · rw [← Act.put_comm a v u h2]; exact hn
theorem wpAnyG_first {Q : Array Bool → Act → Prop} {i : Nat} {oi : Oper} {v : Value} (hi : ops[i]? = some oi) (hsel : ∀ (j : Nat) (o : Oper) cs b, ops[j]? = some o → o.op ≠ .select cs b) :
    ∀ (fuel : Nat) (listed : Array Bool) (a : Act),
      (∀ j oj, ops[j]? = some oj → j ≠ i → listed.getD j true = false → (∀ e ∈ oj.after, Region.binds md e = true → e.on ≠ i) → oi.apart ops oj = true) →
      i ∈ Region.ready md ops listed → YieldsG P md ops C k0 x i oi v a ∧ (i = k0 → T (execOp a.eval oi)) →
      wpAnyG P md ops C k0 x T Q fuel (listed.setIfInBounds i true) (a.put oi.dst v) → wpAnyG P md ops C k0 x T Q (fuel + 1) listed a := by
  intro fuel
  induction fuel with
  | zero =>
    intro listed a _ hr hy H
    refine ⟨fun h => (by rw [h] at hr; cases hr), fun j hj => ?_⟩
    by_cases hji : j = i
    · subst hji
      unfold qOpG; simp only [hi]
      exact ⟨v, hy, H⟩
    · have := ready_mono hj hji
      rw [H.1] at this
      cases this
  | succ fuel ih =>
    intro listed a hfree hr hy H
    refine ⟨fun h => (by rw [h] at hr; cases hr), fun j hj => ?_⟩
    by_cases hji : j = i
    · subst hji
      unfold qOpG; simp only [hi]
      exact ⟨v, hy, H⟩
    · have h1 := H.2 j (ready_mono hj hji)
      obtain ⟨hjun, oj, hoj, hall⟩ := mem_ready.1 hj
      have hnot : ∀ e ∈ oj.after, Region.binds md e = true → e.on ≠ i := fun e he hb heq => by
        have h1 := hall e he hb
        have h0 := (mem_ready.1 hr).1
        rw [heq] at h1
        rcases Nat.lt_or_ge i listed.size with h' | h'
        · simp [h'] at h0 h1; rw [h0] at h1; cases h1
        · simp [Array.getElem?_eq_none h'] at h1
      have h2 := qOpG_put hoj (hfree j oj hoj hji hjun hnot) (fun cs b => hsel i oi cs b hi) (fun cs b => hsel j oj cs b hoj) hy h1
      have hfree' : ∀ k ok, ops[k]? = some ok → k ≠ i → (listed.setIfInBounds j true).getD k true = false →
          (∀ e ∈ ok.after, Region.binds md e = true → e.on ≠ i) → oi.apart ops ok = true := fun k ok hk hki hun hno => by
        refine hfree k ok hk hki ?_ hno
        by_cases hjk : j = k
        · subst hjk; exact hjun
        · rw [getD_set_ne true hjk] at hun; exact hun
      refine qOpG_mono (fun a' h3 => ih (listed.setIfInBounds j true) a' hfree' (ready_mono hr (Ne.symm hji)) h3.1 ?_) h2
      rw [Array.setIfInBounds_comm _ _ hji]
      exact h3.2
/-- the walk in the order of the text, number k first -/
def wpG (P : Program) (md : Region.Mode) (ops : Array Oper) (C : Array Bool → World → Prop) (k0 : Nat) (x : Value) (T : Sem Next → Prop) (Q : Act → Prop) : List Oper → Nat → Act → Prop
  | [], _, a => Q a
  | o :: rest, k, a => ∃ v, (YieldsG P md ops C k0 x k o v a ∧ (k = k0 → T (execOp a.eval o))) ∧ wpG P md ops C k0 x T Q rest (k + 1) (a.put o.dst v)
theorem wpAnyG_lex {Q : Array Bool → Act → Prop} (hs : Region.noSelect ops = true) : ∀ (l : List Oper) (k : Nat) (listed : Array Bool) (a : Act), (∀ j, l[j]? = ops[k + j]?) →
    Region.lexFrom md ops l.length k listed = true → wpG P md ops C k0 x T (Q (setAll l.length k listed)) l k a → wpAnyG P md ops C k0 x T Q l.length listed a
  | [], _, _, _, _, hB, h => ⟨by simpa [Region.lexFrom] using hB, h⟩
  | o :: l, k, listed, a, hl, hB, h => by
    have h0 : ops[k]? = some o := by simpa using (hl 0).symm
    simp only [List.length_cons, Region.lexFrom, Bool.and_eq_true] at hB
    obtain ⟨⟨hr, hf⟩, hB'⟩ := hB
    obtain ⟨v, hy, hK⟩ := h
    exact wpAnyG_first h0 (Region.noSelect_spec hs) l.length listed a (Region.free_spec h0 hf) (by simpa using hr) hy
      (wpAnyG_lex hs l (k + 1) _ _ (fun j => by have := hl (j + 1); simpa [Nat.add_assoc, Nat.add_comm 1 j] using this) hB' hK)
/-- behind the call: all is known -/
theorem wpAnyF_of_G {Q : Array Bool → Act → Prop} : ∀ (fuel : Nat) (listed : Array Bool) (a : Act), listed.getD k0 false = true → wpAnyG P md ops C k0 x T Q fuel listed a → wpAnyF P md ops C Q fuel listed a
  | 0, _, _, _, h => h
  | fuel + 1, listed, a, hk, h => by
    refine ⟨h.1, fun i hi => ?_⟩
    have h1 := h.2 i hi
    have hne : i ≠ k0 := fun e => by
      subst e
      have h0 := (mem_ready.1 hi).1
      rcases Nat.lt_or_ge i listed.size with h' | h'
      · simp [h'] at h0 hk; rw [h0] at hk; cases hk
      · simp [Array.getElem?_eq_none h'] at h0
    unfold qOpG at h1
    unfold qOpF
    split
    · rename_i ho; simp only [ho] at h1
    · rename_i o ho
      simp only [ho] at h1
      obtain ⟨v, ⟨h2, _⟩, h3⟩ := h1
      refine ⟨v, ?_, wpAnyF_of_G fuel _ _ (by rw [getD_set_ne false hne]; exact hk) h3⟩
      rcases h2 with ⟨e, _⟩ | ⟨_, h2⟩
      · exact absurd e hne
      · rcases h2 with ⟨hw, h4⟩ | h4
        · refine .inl ⟨hw, fun l w hl hC => ?_⟩
          have h5 := h4 l w hl hC
          cases hr : (execOp a.eval o).run P w with
          | ok n w' => rw [hr] at h5; cases n <;> simp only [uponV] at h5 <;> exact h5
          | halt y w' => rw [hr] at h5; simp only [uponV] at h5
        · exact .inr h4
theorem uponV_val {Post Post' : World → Prop} {v v' : Value} {r : Result Next} (h : uponV Post v r) (h' : uponV Post' v' r) : v = v' := by
  cases r with
  | ok n w' =>
    cases n <;> simp only [uponV] at h h'
    · rw [← h.1, ← h'.1]
    · rw [h.1, h'.1]
  | halt y w' => simp only [uponV] at h
/-- the theorem: G is what is not known ahead; val its value; C g what holds of worlds where it is g -/
theorem wpAny_of_G {G : Type} {val : G → Value} {V : G → Prop} {Cg : G → Array Bool → World → Prop} {Tg : Sem Next → Prop} {Q' : Exit → Act → World → Prop} (g0 : G) (hg0 : V g0)
    (hag : ∀ g g' listed w, listed.getD k0 false = false → Cg g listed w → Cg g' listed w)
    (hT : ∀ s listed w, Tg s → k0 ∈ Region.ready md ops listed → Cg g0 listed w → ∃ f args, s.run P w = .ok (.enter f args) w ∧ Calls P f args w fun e w' => ∃ g, V g ∧ e = .returned (val g) ∧ Cg g (listed.setIfInBounds k0 true) w') :
    ∀ (fuel : Nat) (listed : Array Bool) (a : Act) (w : World), listed.getD k0 false = false → Cg g0 listed w →
    (∀ g, V g → wpAnyG P md ops (Cg g) k0 (val g) Tg (fun listed a => ∀ w', Cg g listed w' → Q' .normal a w') fuel listed a) → wpAny P md ops Q' fuel listed a w
  | 0, listed, a, w, hk, hC, h => ⟨(h g0 hg0).1, (h g0 hg0).2 w hC⟩
  | fuel + 1, listed, a, w, hk, hC, h => by
    refine ⟨fun h0 => (h g0 hg0).1 h0 w hC, fun i hi => ?_⟩
    have h1 := (h g0 hg0).2 i hi
    unfold qOpG at h1
    unfold wpOp
    split
    · rename_i ho; simp only [ho] at h1
    · rename_i o ho
      simp only [ho] at h1
      obtain ⟨v, ⟨h2, hT0⟩, h3⟩ := h1
      rcases h2 with ⟨e, hv, hw⟩ | ⟨hne, h2⟩
      · subst e
        rw [if_pos hw]
        left
        obtain ⟨f, args, hr, hcall⟩ := hT _ listed w (hT0 rfl) hi hC
        unfold Oper.wp
        rw [hr]
        show Calls P f args w _
        refine hcall.mono fun e w'' ⟨g, hg, he, hCg⟩ => ?_
        subst he
        have h4 := (h g hg).2 i hi
        unfold qOpG at h4
        simp only [ho] at h4
        obtain ⟨v', ⟨h5, _⟩, h6⟩ := h4
        rcases h5 with ⟨_, e5, _⟩ | ⟨hne, _⟩
        · subst e5
          refine wpAny_of_F (C := Cg g) (Q := fun listed a => ∀ w', Cg g listed w' → Q' .normal a w') (fun l a w hC h => h w hC) fuel _ _ w'' hCg (wpAnyF_of_G fuel _ _ ?_ h6)
          exact (getD_on (mem_ready.1 hi).1).2
        · exact absurd rfl hne
      · have hset : (listed.setIfInBounds i true).getD k0 false = false := by rw [getD_set_ne false hne]; exact hk
        have hval : ∀ g, V g → wpAnyG P md ops (Cg g) k0 (val g) Tg (fun listed a => ∀ w', Cg g listed w' → Q' .normal a w') fuel (listed.setIfInBounds i true) (a.put o.dst v) := by
          intro g hg
          have h4 := (h g hg).2 i hi
          unfold qOpG at h4
          simp only [ho] at h4
          obtain ⟨v', ⟨h5, _⟩, h6⟩ := h4
          rcases h5 with ⟨e, _⟩ | ⟨_, h5⟩
          · exact absurd e hne
          · have hvv : v = v' := by
              rcases h2 with ⟨hw, ha⟩ | ⟨hw, rfl, _⟩
              · rcases h5 with ⟨_, hb⟩ | ⟨hw', _⟩
                · exact uponV_val (ha listed w hi hC) (hb listed w hi (hag _ _ _ _ hk hC))
                · rw [hw] at hw'; cases hw'
              · rcases h5 with ⟨hw', _⟩ | ⟨_, e, _⟩
                · rw [hw] at hw'; cases hw'
                · exact e.symm
            rw [hvv]; exact h6
        rcases h2 with ⟨hw, ha⟩ | ⟨hw, rfl, hv⟩
        · rw [if_pos hw]
          left
          have h5 := ha listed w hi hC
          unfold Oper.wp
          generalize (execOp a.eval o).run P w = r at *
          cases r with
          | ok n w' =>
            cases n <;> simp only [uponV] at h5 <;> simp only [Oper.upon]
            case value u => obtain ⟨e1, e2⟩ := h5; rw [e1]; exact wpAny_of_G g0 hg0 hag hT fuel _ _ w' hset e2 hval
            case skip => obtain ⟨e1, e2⟩ := h5; rw [← e1]; exact wpAny_of_G g0 hg0 hag hT fuel _ _ w' hset e2 hval
          | halt y w' => simp only [uponV] at h5
        · rw [if_neg (by rw [hw]; exact Bool.false_ne_true)]
          exact wpAny_of_G g0 hg0 hag hT fuel _ _ w hset (hv listed w hi hC) hval
end
section
variable {P : Program} {ops : Array Oper} {rest : List Oper} {o : Oper} {a : Act} {Q : Act → Prop} {F : (Nat → Bool) → World → Prop} {js : List Nat} {k k0 : Nat} {md : Region.Mode} {x : Value} {T : Sem Next → Prop}
theorem wpG_nil (h : Q a) : wpG P md ops (CN F) k0 x T Q [] k a := h
/-- the call -/
theorem wpG_call {dst : Option Tmp} {f : FuncId} {xs : Array Operand} {ats : Array TypeId} {ty : TypeId} {pos : String} {after : Array Edge} {g : Option (Nat × Bool)} (av : Array Value)
    (hw : Region.wanted ⟨dst, .call ⟨.value (.func f), xs, ats⟩, ty, pos, after, g⟩ (yielded ops a.tmps) = true) (hav : xs.map a.eval = av) (hcf : ∀ W, (callFunc f (#[] ++ av ++ #[])).run P W = .ok (.enter f av) W)
    (h : wpG P md ops (CN F) k x (fun s => ∀ W, s.run P W = .ok (.enter f av) W) Q rest (k + 1) (a.put dst x)) :
    wpG P md ops (CN F) k x (fun s => ∀ W, s.run P W = .ok (.enter f av) W) Q (⟨dst, .call ⟨.value (.func f), xs, ats⟩, ty, pos, after, g⟩ :: rest) k a :=
  ⟨x, ⟨.inl ⟨rfl, rfl, hw⟩, fun _ W => by rw [execOp_call_go, hav, hcf]⟩, h⟩
theorem wpG_read (hD : Dep F js) (hV : isV o.op = true) (hk : k ∉ js) (hk0 : k0 ∈ js) (h : wpQuiet P ops (fun W => ∃ x : FXN F, W = x.W) (fun a' => wpG P md ops (CN F) k0 x T Q rest (k + 1) a') [o] a) : wpG P md ops (CN F) k0 x T Q (o :: rest) k a := by
  have hne : k ≠ k0 := fun e => hk (e ▸ hk0)
  unfold wpQuiet at h
  split at h
  · rename_i hw
    obtain ⟨v, h1, h2⟩ := h
    refine ⟨v, ⟨.inr ⟨hne, .inl ⟨hw, fun listed W hl hW => ?_⟩⟩, fun e => absurd e hne⟩, h2⟩
    have h3 := h1 W ⟨⟨W, _, hW⟩, rfl⟩
    unfold Oper.quietAt at h3
    cases hr : (execOp a.eval o).run P W with
    | ok n w' =>
      obtain ⟨u, rfl⟩ := isV_value hV hr
      rw [hr] at h3
      simp only [Oper.quietUpon] at h3
      simp only [uponV]
      obtain ⟨e1, e2⟩ := h3
      subst e1
      exact ⟨e2, hW.skip hD hk⟩
    | halt x w' => rw [hr] at h3; simp only [Oper.quietUpon] at h3
  · rename_i hw
    exact ⟨undef, ⟨.inr ⟨hne, .inr ⟨by simpa using hw, rfl, fun listed W hl hW => hW.skip hD hk⟩⟩, fun e => absurd e hne⟩, h⟩
/-- an operation that changes the world, or a read at some worlds alone, where others that it waits for are done -/
theorem wpG_step (hD : Dep F js) (hk0 : (k != k0) = true) (hi : ops[k]? = some o) (hw : Region.wanted o (yielded ops a.tmps) = true) {v : Value} (dep : List Nat) (hd : (dep.all fun j => o.after.any fun e => Region.binds md e && e.on == j) = true)
    (hs : ∀ f W, F f W → f k = false → (∀ j ∈ dep, f j = true) → ∃ W', (execOp a.eval o).run P W = .ok (.value v) W' ∧ F (fun i => i == k || f i) W') (h : wpG P md ops (CN F) k0 x T Q rest (k + 1) (a.put o.dst v)) : wpG P md ops (CN F) k0 x T Q (o :: rest) k a := by
  have hne : k ≠ k0 := by simpa using hk0
  refine ⟨v, ⟨.inr ⟨hne, .inl ⟨hw, fun listed W hl hW => ?_⟩⟩, fun e => absurd e hne⟩, h⟩
  have hk : listed.getD k false = false := by
    have h1 := (mem_ready.1 hl).1
    rcases Nat.lt_or_ge k listed.size with h' | h'
    · simp [h'] at h1 ⊢; exact h1
    · simp [Array.getElem?_eq_none h'] at h1 
  obtain ⟨W', h1, h2⟩ := hs _ W hW hk (fun j hj => ready_after hi (List.all_eq_true.1 hd j hj) hl)
  rw [h1]
  refine ⟨rfl, hD _ _ _ (fun j hj => ?_) h2⟩
  by_cases hjk : j = k
  · subst hjk
    rw [(getD_on (mem_ready.1 hl).1).2]; simp
  · have hne : k ≠ j := Ne.symm hjk
    rw [getD_set_ne false hne]; simp [hjk]
theorem wpG_store (hD : Dep F js) (hk0 : (k != k0) = true) (hi : ops[k]? = some o) (ty : TypeId) (px py : Operand) (ho : o.op = .store ty px py) (hw : Region.wanted o (yielded ops a.tmps) = true) {p u : Value} (hx : a.eval px = p) (hy : a.eval py = u) (dep : List Nat) (hd : (dep.all fun j => o.after.any fun e => Region.binds md e && e.on == j) = true)
    (hs : ∀ f W, F f W → f k = false → (∀ j ∈ dep, f j = true) → ∃ W', (Instr.storeAt ty p u).run P W = .ok () W' ∧ F (fun i => i == k || f i) W') (h : wpG P md ops (CN F) k0 x T Q rest (k + 1) (a.put o.dst undef)) : wpG P md ops (CN F) k0 x T Q (o :: rest) k a := by
  have hne : k ≠ k0 := by simpa using hk0
  refine ⟨undef, ⟨.inr ⟨hne, .inl ⟨hw, fun listed W hl hW => ?_⟩⟩, fun e => absurd e hne⟩, h⟩
  have hk : listed.getD k false = false := by
    have h1 := (mem_ready.1 hl).1
    rcases Nat.lt_or_ge k listed.size with h' | h'
    · simp [h'] at h1 ⊢; exact h1
    · simp [Array.getElem?_eq_none h'] at h1 
  obtain ⟨W', h1, h2⟩ := hs _ W hW hk (fun j hj => ready_after hi (List.all_eq_true.1 hd j hj) hl)
  unfold execOp
  simp only [ho, hx, hy, Sem.run_bind, h1, Result.andThen_ok, Sem.run_pure, uponV, true_and]
  refine hD _ _ _ (fun j hj => ?_) h2
  by_cases hjk : j = k
  · subst hjk
    rw [(getD_on (mem_ready.1 hl).1).2]; simp
  · have hne : k ≠ j := Ne.symm hjk
    rw [getD_set_ne false hne]; simp [hjk]
end
/-- gd: what is laid for g before the call; it says nothing. -/
theorem wp_region_G {P : Program} {id : Nat} {Q : Exit → Act → World → Prop} {a : Act} {w : World} {l : List Oper} {G : Type} (val : G → Value) (V : G → Prop) (F : G → (Nat → Bool) → World → Prop) (js : List Nat) (k0 : Nat) (gd : G) (f : FuncId) (av : Array Value)
    (hD : ∀ g, Dep (F g) js) (hm : P.follows .mixedOrders = true) (hB : Region.lexB .any l.toArray = true)
    (hf : (js.all fun j => (setAll l.length 0 (Array.replicate l.length false)).getD j false) = true)
    (hag : ∀ g g' φ W, φ k0 = false → F g φ W → F g' φ W) (hC : F gd (fun _ => false) w.drew) (hk0 : k0 ∈ js)
    (hcall : ∀ φ W, φ k0 = false → F gd φ W → Calls P f av W fun e W' => ∃ g, V g ∧ e = .returned (val g) ∧ F g (fun i => i == k0 || φ i) W')
    (h : ∀ g, V g → wpG P .any l.toArray (CN (F g)) k0 (val g) (fun s => ∀ W, s.run P W = .ok (.enter f av) W) (fun a' => ∀ w', F g (fun _ => true) w' → Q .normal a' w') l 0 a) : (Code.region id l.toArray true).wp P Q a w := by
  obtain ⟨g0, hg0⟩ : ∃ g, V g := by
    obtain ⟨e, w', fr, ⟨g, hg, _⟩, _⟩ := hcall (fun _ => false) w.drew rfl hC []
    exact ⟨g, hg⟩
  have hrep : ∀ j, (Array.replicate l.length false).getD j false = false := fun j => getD_replicate_false _ _
  simp only [Region.lexB, Bool.and_eq_true] at hB
  refine wp_region_any hm (wpAny_of_G (val := val) (V := V) (Cg := fun g => CN (F g)) (Tg := fun s => ∀ W, s.run P W = .ok (.enter f av) W) (k0 := k0) g0 hg0 ?_ ?_ _ _ _ _ (by simpa using hrep k0) ?_ ?_)
  · intro g g' listed W hk hW
    exact hag g g' _ W hk hW
  · intro s listed W hs hr hW
    refine ⟨f, av, hs W, ?_⟩
    have hk : listed.getD k0 false = false := by
      have h1 := (mem_ready.1 hr).1
      rcases Nat.lt_or_ge k0 listed.size with h' | h'
      · simp [h'] at h1 ⊢; exact h1
      · simp [Array.getElem?_eq_none h'] at h1
    refine (hcall _ W hk (hag _ _ _ _ hk hW)).mono fun e W' ⟨g, h1, h2, h3⟩ => ⟨g, h1, h2, ?_⟩
    refine hD g _ _ _ (fun j hj => ?_) h3
    by_cases hjk : j = k0
    · subst hjk
      rw [(getD_on (mem_ready.1 hr).1).2]; simp
    · have hne : k0 ≠ j := Ne.symm hjk
      rw [getD_set_ne false hne]; simp [hjk]
  · refine hD g0 _ _ _ (fun j _ => ?_) (hag gd g0 _ _ rfl hC)
    have := hrep j
    simpa using this.symm
  · intro g hg
    have e2 : ∀ w', CN (F g) (setAll l.length 0 (Array.replicate l.length false)) w' → F g (fun _ => true) w' := fun w' h' => hD g _ _ _ (fun j hj => by simpa using List.all_eq_true.1 hf j hj) h'
    have mono : ∀ (r : List Oper) (k : Nat) (a' : Act), wpG P .any l.toArray (CN (F g)) k0 (val g) (fun s => ∀ W, s.run P W = .ok (.enter f av) W) (fun a' => ∀ w', F g (fun _ => true) w' → Q .normal a' w') r k a' → wpG P .any l.toArray (CN (F g)) k0 (val g) (fun s => ∀ W, s.run P W = .ok (.enter f av) W) (fun a' => ∀ w', CN (F g) (setAll l.length 0 (Array.replicate l.length false)) w' → Q .normal a' w') r k a' := by
      intro r
      induction r with
      | nil => intro k a' h0 w' h'; exact h0 w' (e2 w' h')
      | cons o r ih => intro k a' h0; obtain ⟨v, h1, h2⟩ := h0; exact ⟨v, h1, ih _ _ h2⟩
    have := wpAnyG_lex (C := CN (F g)) (md := .any) (k0 := k0) (x := val g) (T := fun s => ∀ W, s.run P W = .ok (.enter f av) W) (Q := fun listed a' => ∀ w', CN (F g) listed w' → Q .normal a' w') hB.1 l 0 (Array.replicate l.length false) a (by simp) (by simpa using hB.2) (mono _ _ _ (h g hg))
    simpa using this
end Go.Proofs.Ytbfmdbeeiicabaa
namespace Go.Proofs.Ytbfmdbeeiicabaa
open Go.RowKit L02 L13 L18 L20
set_option maxRecDepth 100000 in
set_option maxHeartbeats 1000000 in
theorem CloneW_rd (x : Value) (n : Nat) (xs : List Value) (hn : n ≤ 1000) (h1 : ∀ u ∈ xs, u.oneCell' = true) (w : World) (h : Rd w 1 x n xs) :
    Calls Try.prog 80 #[x] w fun e w' => ∃ y, e = .returned y ∧ w'.ownsRow w.heap.size 34 1 y n xs ∧ Below w.heap.size w w' := by
  have B : Below w.heap.size w w := Below.refl _ _
  have HX := Lib.hid h; have HU := Lib.hid h1
  obtain ⟨A, c, rfl, hc, _, hl, hA, _⟩ := h
  rcases A with _ | ad
  · have hc0 := hA rfl
    subst hc0
    obtain rfl : n = 0 := by omega
    obtain rfl : xs = [] := List.eq_nil_of_length_eq_zero (by simpa using hl)
    clear hl hA hc
    have q : ∀ W, (binOp .eql 22 (.slice none 0 0) (.slice none 0 0)).run Try.prog W = .ok (.bool true) W := fun W => Lib.run_eql_slice_nil W _ _ _ _ _ _ _ Try.underlying22
    go_enter Try.func80, Try.ntmps80
    go_wp2
    go_ret
    exact ⟨_, rfl, World.ownsRow_nil _ _ _ _, B⟩
  · clear hl hA hc
    have q : ∀ W, (binOp .eql 22 (.slice (some ad) n c) (.slice none 0 0)).run Try.prog W = .ok (.bool false) W := fun W => Lib.run_eql_slice_nil W _ _ _ _ _ _ _ Try.underlying22
    go_enter Try.func80, Try.ntmps80
    go_wp2_with (at_builtin; refine wpList_append (by rfl) rfl rfl rfl Try.underlying22 info_u64 rfl (by omega) (by exact lit0_own (Nat.le_refl _)) (by exact HX.out.alloc _) HU.out (by omega) (by omega) (by exact B.alloc B.size _) (Nat.le_refl _) ?_; intro v1 w3 o3 B3 g3; clear g3)
    go_ret
    exact ⟨_, rfl, by simpa using o3, B3⟩
set_option maxRecDepth 100000 in
set_option maxHeartbeats 1000000 in
theorem CloneB_rd (x : Value) (n : Nat) (xs : List Value) (hn : n ≤ 1000) (h1 : ∀ u ∈ xs, u.oneCell' = true) (w : World) (h : Rd w 1 x n xs) :
    Calls Try.prog 146 #[x] w fun e w' => ∃ y, e = .returned y ∧ w'.ownsRow w.heap.size 5 1 y n xs ∧ Below w.heap.size w w' := by
  have B : Below w.heap.size w w := Below.refl _ _
  have HX := Lib.hid h; have HU := Lib.hid h1
  obtain ⟨A, c, rfl, hc, _, hl, hA, _⟩ := h
  rcases A with _ | ad
  · have hc0 := hA rfl
    subst hc0
    obtain rfl : n = 0 := by omega
    obtain rfl : xs = [] := List.eq_nil_of_length_eq_zero (by simpa using hl)
    clear hl hA hc
    have q : ∀ W, (binOp .eql 44 (.slice none 0 0) (.slice none 0 0)).run Try.prog W = .ok (.bool true) W := fun W => Lib.run_eql_slice_nil W _ _ _ _ _ _ _ Try.underlying44
    go_enter Try.func146, Try.ntmps146
    go_wp2
    go_ret
    exact ⟨_, rfl, World.ownsRow_nil _ _ _ _, B⟩
  · clear hl hA hc
    have q : ∀ W, (binOp .eql 44 (.slice (some ad) n c) (.slice none 0 0)).run Try.prog W = .ok (.bool false) W := fun W => Lib.run_eql_slice_nil W _ _ _ _ _ _ _ Try.underlying44
    go_enter Try.func146, Try.ntmps146
    go_wp2_with (at_builtin; refine wpList_append (by rfl) rfl rfl rfl Try.underlying44 info_u8 rfl (by omega) (by exact lit0_own (Nat.le_refl _)) (by exact HX.out.alloc _) HU.out (by omega) (by omega) (by exact B.alloc B.size _) (Nat.le_refl _) ?_; intro v1 w3 o3 B3 g3; clear g3)
    go_ret
    exact ⟨_, rfl, by simpa using o3, B3⟩
set_option maxRecDepth 100000 in
set_option maxHeartbeats 1000000 in
theorem CloneS_rd (x : Value) (n : Nat) (xs : List Value) (hn : n ≤ 1000) (h1 : ∀ u ∈ xs, u.oneCell' = true) (w : World) (h : Rd w 3 x n xs) :
    Calls Try.prog 145 #[x] w fun e w' => ∃ y, e = .returned y ∧ w'.ownsRow w.heap.size 68 3 y n xs ∧ Below w.heap.size w w' := by
  have B : Below w.heap.size w w := Below.refl _ _
  have HX := Lib.hid h; have HU := Lib.hid h1
  obtain ⟨A, c, rfl, hc, _, hl, hA, _⟩ := h
  rcases A with _ | ad
  · have hc0 := hA rfl
    subst hc0
    obtain rfl : n = 0 := by omega
    obtain rfl : xs = [] := List.eq_nil_of_length_eq_zero (by simpa using hl)
    clear hl hA hc
    have q : ∀ W, (binOp .eql 64 (.slice none 0 0) (.slice none 0 0)).run Try.prog W = .ok (.bool true) W := fun W => Lib.run_eql_slice_nil W _ _ _ _ _ _ _ Try.underlying64
    go_enter Try.func145, Try.ntmps145
    go_wp2
    go_ret
    exact ⟨_, rfl, World.ownsRow_nil _ _ _ _, B⟩
  · clear hl hA hc
    have q : ∀ W, (binOp .eql 64 (.slice (some ad) n c) (.slice none 0 0)).run Try.prog W = .ok (.bool false) W := fun W => Lib.run_eql_slice_nil W _ _ _ _ _ _ _ Try.underlying64
    go_enter Try.func145, Try.ntmps145
    go_wp2_with (at_builtin; refine wpList_append (by rfl) rfl rfl rfl Try.underlying64 info_slot rfl (by omega) (by exact lit0_own (Nat.le_refl _)) (by exact HX.out.alloc _) HU.out (by omega) (by omega) (by exact B.alloc B.size _) (Nat.le_refl _) ?_; intro v1 w3 o3 B3 g3; clear g3)
    go_ret
    exact ⟨_, rfl, by simpa using o3, B3⟩
theorem CloneW_any (x : Value) (l : List UInt64) (hn : l.length ≤ 1000) (w : World) (h : Words w x l) :
    Calls Try.prog 80 #[x] w fun e w' => ∃ y, e = .returned y ∧ OwnW w' w.heap.size 34 y l ∧ Below w.heap.size w w' := CloneW_rd x _ _ hn (one_u64s l) w h
theorem CloneB_any (x : Value) (l : List UInt8) (hn : l.length ≤ 1000) (w : World) (h : Byts w x l) :
    Calls Try.prog 146 #[x] w fun e w' => ∃ y, e = .returned y ∧ OwnB w' w.heap.size 5 y l ∧ Below w.heap.size w w' := CloneB_rd x _ _ hn (one_u8s l) w h
theorem CloneS_any (x : Value) (l : List Sl) (hn : l.length ≤ 1000) (w : World) (h : Slots w x l) :
    Calls Try.prog 145 #[x] w fun e w' => ∃ y, e = .returned y ∧ OwnS w' w.heap.size 68 y l ∧ Below w.heap.size w w' := CloneS_rd x _ _ hn (tabL_one l) w h
end Go.Proofs.Ytbfmdbeeiicabaa
namespace Go.Proofs.Ytbfmdbeeiicabaa
open Go.RowKit
theorem grown_set (w : World) (p : Addr) (u : Value) : w.grownBy (w.setCell p u) (some p.block) :=
  ⟨rfl, rfl, rfl, by simp [World.setCell], fun k hk hne => Below.heap_setCell w p u k (fun e => hne (by rw [e]))⟩
theorem own_not_bx {w : World} {B e sz n p : Nat} {v : Value} {xs : List Value} {t : TypeId} {cs : Array Value} (h : w.ownsRow B e sz v n xs) (hg : Bx w p t cs) (hne : e ≠ t) : v.ownBlock = none ∨ v.ownBlock ≠ some p := by
  rcases h.2 with ⟨rfl, _⟩ | ⟨g, cap, cur, rfl, _, hgg, _⟩
  · exact .inl rfl
  · refine .inr ?_
    intro he
    simp [Value.ownBlock] at he
    subst he
    rw [Bx, hgg] at hg
    injection hg with hg
    injection hg with _ h2 _
    exact hne h2
theorem own_set {w : World} {B e sz n p i : Nat} {v u : Value} {xs : List Value} {t : TypeId} {cs : Array Value} (h : w.ownsRow B e sz v n xs) (hg : Bx w p t cs) (hne : e ≠ t) : (w.setCell ⟨p, i, none⟩ u).ownsRow B e sz v n xs :=
  World.ownsRow.kept h (grown_set w ⟨p, i, none⟩ u) (own_not_bx h hg hne)
theorem Bx.grown {w w' : World} {g : Nat} {t : TypeId} {cs : Array Value} {row : Option Nat} (h : Bx w g t cs) (hg : w.grownBy w' row) (hne : row = none ∨ row ≠ some g) : Bx w' g t cs := by
  have hl := h.lt
  unfold Bx at *
  rw [hg.block g hl (by rcases hne with rfl | h; · simp
                        · exact fun e => h e.symm)]
  exact h
theorem own_fresh {w : World} {B e sz n : Nat} {v : Value} {xs : List Value} (h : w.ownsRow B e sz v n xs) : v.ownBlock = none ∨ v.ownBlock ≠ some w.heap.size := by
  cases hv : v.ownBlock with
  | none => exact .inl rfl
  | some g => exact .inr (fun e => by injection e with e; have := (h.lt g hv).2; omega)
/-- a store below the base of a row -/
theorem own_apart {w : World} {B e sz n p i : Nat} {v u : Value} {xs : List Value} (h : w.ownsRow B e sz v n xs) (hp : p < B) : (w.setCell ⟨p, i, none⟩ u).ownsRow B e sz v n xs := by
  refine World.ownsRow.kept h (grown_set w ⟨p, i, none⟩ u) ?_
  cases hv : v.ownBlock with
  | none => exact .inl rfl
  | some g => exact .inr (fun e => by injection e with e; subst e; have := (h.lt g hv).1; omega)
/-- the blocks from lo to hi are as they were -/
def Mid (lo hi : Nat) (w w' : World) : Prop := ∀ k, lo ≤ k → k < hi → w'.heap[k]? = w.heap[k]?
theorem Mid.refl (lo hi : Nat) (w : World) : Mid lo hi w w := fun _ _ _ => rfl
theorem Mid.set {lo hi : Nat} {w w' : World} (h : Mid lo hi w w') {p : Addr} (hp : p.block < lo ∨ hi ≤ p.block) (u : Value) : Mid lo hi w (w'.setCell p u) := fun k h1 h2 =>
  (Below.heap_setCell w' p u k (by omega)).trans (h k h1 h2)
theorem Mid.grown {lo hi : Nat} {w w' w'' : World} {row : Option Nat} (h : Mid lo hi w w') (hs : hi ≤ w'.heap.size) (hg : w'.grownBy w'' row) (hr : ∀ k, row = some k → k < lo ∨ hi ≤ k) : Mid lo hi w w'' := fun k h1 h2 =>
  (hg.block k (by omega) (fun e => by have := hr k e.symm; omega)).trans (h k h1 h2)
theorem Mid.below {lo hi : Nat} {w w' w'' : World} (h : Mid lo hi w w') (hs : hi ≤ w'.heap.size) (hb : Below w'.heap.size w' w'') : Mid lo hi w w'' := fun k h1 h2 =>
  (hb.block k (by omega)).trans (h k h1 h2)
theorem own_mid {lo e sz n : Nat} {w w' : World} {v : Value} {xs : List Value} (h : w.ownsRow lo e sz v n xs) (hm : Mid lo w.heap.size w w') : w'.ownsRow lo e sz v n xs := by
  refine ⟨h.1, h.2.imp id ?_⟩
  rintro ⟨g, cap, cur, h1, h2, h3, h4⟩
  exact ⟨g, cap, cur, h1, h2, (hm g h2 (Array.getElem?_eq_some_iff.1 h3).1).trans h3, h4⟩
end Go.Proofs.Ytbfmdbeeiicabaa
namespace Go.Proofs.Ytbfmdbeeiicabaa
open Go.RowKit L02 L13 L18 L20
def Small (m : Mo) : Prop := m.types.length ≤ 20 ∧ m.objs.length ≤ 962 ∧ m.slots.length ≤ 30 ∧ (∀ t ∈ m.types, t.length ≤ 20) ∧ ∀ o ∈ m.objs, o.fs.length ≤ 20
theorem small_chk {m : Mo} (h : chk m = 0) : Small m := by
  obtain ⟨h1, h2, h3, h4, h5, h6⟩ := chk_ok h
  have ht : ∀ t ∈ m.types, t.length ≤ 8 := fun t ht => (kErr_ok (h4 t ht)).1
  refine ⟨by omega, by omega, by omega, fun t hh => by have := ht t hh; omega, fun o ho => ?_⟩
  have ho' := h5 o ho
  have hty : o.ty.toNat < m.types.length := by have := ho'.1; omega
  have : ty m.types o ∈ m.types := by
    rw [ty, List.getD_eq_getElem?_getD, List.getElem?_eq_getElem hty]
    exact List.getElem_mem hty
  have := ht _ this
  have := ho'.2.1
  omega
theorem OwnT.set {w : World} {B p i : Nat} {v u : Value} {L : List (List UInt8)} {t : TypeId} {cs : Array Value} (h : OwnT w B v L) (hg : Bx w p t cs) (h1 : 44 ≠ t) (h2 : 5 ≠ t) : OwnT (w.setCell ⟨p, i, none⟩ u) B v L := by
  obtain ⟨vs, a1, a2, a4⟩ := h; exact ⟨vs, a1, own_set a2 hg h1, fun i x l h5 h6 => own_set (a4 i x l h5 h6) hg h2⟩
theorem OwnO.set {w : World} {B p i : Nat} {v u : Value} {L : List Ob} {t : TypeId} {cs : Array Value} (h : OwnO w B v L) (hg : Bx w p t cs) (h1 : 136 ≠ t) (h2 : 34 ≠ t) : OwnO (w.setCell ⟨p, i, none⟩ u) B v L := by
  obtain ⟨vs, a1, a2, a4, a5⟩ := h; exact ⟨vs, a1, own_set a2 hg h1, fun i x l h5 h6 => own_set (a4 i x l h5 h6) hg h2, a5⟩
/-- one more object: xs the slices of fields, x the new one; the row was appended to. -/
theorem OwnO.snoc {w w' : World} {base n : Nat} {v v' x : Value} {L : List Ob} {o : Ob} {vs : List Value} (h1 : vs.length = L.length) (ho0 : w.ownsRow base 136 2 v L.length (obC L vs)) (ho : w'.ownsRow base 136 2 v' n (obC L vs ++ [i64 o.ty, x]))
    (h4 : ∀ (i : Nat) x l, vs[i]? = some x → L[i]? = some l → OwnW w base 34 x l.fs) (h5 : ∀ (i j : Nat) x y, i ≠ j → vs[i]? = some x → vs[j]? = some y → x.ownBlock = none ∨ x.ownBlock ≠ y.ownBlock)
    (hx : OwnW w base 34 x o.fs) (hap : ∀ (i : Nat) y, vs[i]? = some y → (x.ownBlock = none ∨ x.ownBlock ≠ y.ownBlock) ∧ (y.ownBlock = none ∨ y.ownBlock ≠ x.ownBlock)) (hg : w.grownBy w' v.ownBlock) : OwnO w' base v' (L ++ [o]) := by
  have hn : n = (L ++ [o]).length := by have := ho.1; rw [List.length_append, obC_len h1] at this; simp at this ⊢; omega
  subst hn
  have keep : ∀ y m, OwnW w base 34 y m → OwnW w' base 34 y m := fun y m hy => World.ownsRow.kept hy hg (own_unlike hy ho0 (by decide))
  have idx : ∀ i, i ≥ vs.length → ∀ y, (vs ++ [x])[i]? = some y → i = vs.length ∧ y = x := by
    intro i hi y hy
    rw [List.getElem?_append_right hi] at hy
    have h0 : i - vs.length = 0 := by
      rcases Nat.eq_zero_or_pos (i - vs.length) with h | h
      · exact h
      · rw [List.getElem?_eq_none (by simp; omega)] at hy; cases hy
    rw [h0] at hy
    simp at hy
    exact ⟨by omega, hy.symm⟩
  refine ⟨vs ++ [x], by simp [h1], by rw [obC_snoc h1]; exact ho, fun i y l hy hl => ?_, fun i j y z hij hy hz => ?_⟩
  · by_cases hi : i < vs.length
    · rw [List.getElem?_append_left hi] at hy
      rw [List.getElem?_append_left (by omega)] at hl
      exact keep _ _ (h4 i y l hy hl)
    · obtain ⟨rfl, rfl⟩ := idx i (by omega) y hy
      rw [List.getElem?_append_right (by omega), h1] at hl
      simp at hl; subst hl
      exact keep _ _ hx
  · by_cases hi : i < vs.length
    · rw [List.getElem?_append_left hi] at hy
      by_cases hj : j < vs.length
      · rw [List.getElem?_append_left hj] at hz
        exact h5 i j y z hij hy hz
      · obtain ⟨_, rfl⟩ := idx j (by omega) z hz
        exact (hap i y hy).2
    · obtain ⟨e1, rfl⟩ := idx i (by omega) y hy
      by_cases hj : j < vs.length
      · rw [List.getElem?_append_left hj] at hz
        exact (hap j z hz).1
      · obtain ⟨e2, rfl⟩ := idx j (by omega) z hz
        omega
theorem own_form' {w : World} {B e sz n : Nat} {v : Value} {xs : List Value} (h : w.ownsRow B e sz v n xs) : ∃ A c, v = .slice A n c := by
  obtain ⟨A, c, e, _⟩ := Rd.of_own h; exact ⟨A, c, e⟩
/-- what one more copied type leaves of memory -/
theorem copyT_mem {w wr W1 W3 : World} {B0 p a b n : Nat} {xt y v o ys : Value} {vs : List Value} {L : List (List UInt8)} {t : List UInt8} {S : List Sl} {cs1 cs2 : Array Value}
    (z1 : vs.length = L.length) (z2 : wr.ownsRow B0 44 1 xt L.length vs) (z4 : ∀ (i : Nat) x l, vs[i]? = some x → L[i]? = some l → OwnB wr B0 5 x l)
    (oy : OwnB W1 wr.heap.size 5 y t) (b1 : Below wr.heap.size wr W1) (hown : W3.ownsRow B0 44 1 v n (vs ++ [y])) (hgr : (W1.alloc (.cells #[y] 44)).grownBy W3 xt.ownBlock)
    (q1 : Bx wr a 79 cs1) (q2 : Bx wr b 79 cs2) (q3 : Bx wr p 79 #[xt, o, ys]) (oS : OwnS wr B0 68 ys S) (B : Below B0 w wr) (hB : B0 ≤ wr.heap.size) (ha : a ≠ p) (hb : b ≠ p) (hp : B0 ≤ p) (hB0 : B0 ≤ w.heap.size) :
    (W3.cell? ⟨p, 0, none⟩ = some xt ∧ W3.frozen? ⟨p, 0, none⟩ = false) ∧ OwnT (W3.setCell ⟨p, 0, none⟩ v) B0 v (L ++ [t]) ∧ Bx (W3.setCell ⟨p, 0, none⟩ v) a 79 cs1 ∧ Bx (W3.setCell ⟨p, 0, none⟩ v) b 79 cs2 ∧ Bx (W3.setCell ⟨p, 0, none⟩ v) p 79 #[v, o, ys] ∧
      OwnS (W3.setCell ⟨p, 0, none⟩ v) B0 68 ys S ∧ Below B0 w (W3.setCell ⟨p, 0, none⟩ v) := by
  have b2 : Below wr.heap.size wr (W1.alloc (.cells #[y] 44)) := b1.alloc b1.size _
  have z2' := own_below z2 b2
  have nx := fun {g : Nat} {cs : Array Value} (hq : Bx (W1.alloc (.cells #[y] 44)) g 79 cs) => Bx.grown hq hgr (own_not_bx z2' hq (by decide))
  have r1 := nx (q1.below b2); have r2 := nx (q2.below b2); have r3 := nx (q3.below b2)
  have oS' : OwnS W3 B0 68 ys S := World.ownsRow.kept (own_below oS b2) hgr (own_unlike (own_below oS b2) z2' (by decide))
  have oT : OwnT W3 B0 v (L ++ [t]) := OwnT.snoc z1 z2' hown (fun i x l h5 h6 => OwnB.below (z4 i x l h5 h6) b2) (OwnB.below (own_mono oy hB) ((Below.refl _ W1).alloc (Nat.le_refl _) _)) hgr
  have B3 : Below B0 w W3 := (B.trans (b2.mono hB)).grown hgr (Nat.le_trans hB b2.size) (fun k hk => (z2'.lt k hk).1)
  refine ⟨⟨r3.cell 0, r3.free 0⟩, oT.set r3 (by decide) (by decide), r1.far (p := ⟨p, 0, none⟩) ha _, r2.far (p := ⟨p, 0, none⟩) hb _, ?_, own_set oS' r3 (by decide), B3.setCell (p := ⟨p, 0, none⟩) hp _⟩
  have := r3.set (i := 0) v
  simpa using this
theorem OwnT.kept {w w' : World} {B B2 e n sz : Nat} {v a : Value} {L : List (List UInt8)} {xs : List Value} (h : OwnT w B v L) (ha : w.ownsRow B2 e sz a n xs) (hg : w.grownBy w' a.ownBlock) (h1 : 44 ≠ e) (h2 : 5 ≠ e) : OwnT w' B v L := by
  obtain ⟨vs, a1, a2, a4⟩ := h
  exact ⟨vs, a1, World.ownsRow.kept a2 hg (own_unlike a2 ha h1), fun i x l h5 h6 => World.ownsRow.kept (a4 i x l h5 h6) hg (own_unlike (a4 i x l h5 h6) ha h2)⟩
/-- what one more copied object leaves of memory -/
theorem copyO_mem {w wr W1 W3 : World} {B0 p a b n : Nat} {ot y v xt ys : Value} {vs : List Value} {L : List Ob} {o : Ob} {S : List Sl} {T : List (List UInt8)} {cs1 cs2 : Array Value}
    (z1 : vs.length = L.length) (z2 : wr.ownsRow B0 136 2 ot L.length (obC L vs)) (z4 : ∀ (i : Nat) x l, vs[i]? = some x → L[i]? = some l → OwnW wr B0 34 x l.fs)
    (z5 : ∀ (i j : Nat) x y, i ≠ j → vs[i]? = some x → vs[j]? = some y → x.ownBlock = none ∨ x.ownBlock ≠ y.ownBlock)
    (oy : OwnW W1 wr.heap.size 34 y o.fs) (b1 : Below wr.heap.size wr W1) (hown : W3.ownsRow B0 136 2 v n (obC L vs ++ [i64 o.ty, y])) (hgr : (W1.alloc (.cells #[i64 o.ty, y] 136)).grownBy W3 ot.ownBlock)
    (q1 : Bx wr a 79 cs1) (q2 : Bx wr b 79 cs2) (q3 : Bx wr p 79 #[xt, ot, ys]) (oT : OwnT wr B0 xt T) (oS : OwnS wr B0 68 ys S) (B : Below B0 w wr) (hB : B0 ≤ wr.heap.size) (ha : a ≠ p) (hb : b ≠ p) (hp : B0 ≤ p) {q : Nat} {tq : TypeId} {cs4 : Array Value} (q4 : Bx wr q tq cs4) (hq : ot.ownBlock = none ∨ ot.ownBlock ≠ some q) (hqp : q ≠ p) :
    (W3.cell? ⟨p, 1, none⟩ = some ot ∧ W3.frozen? ⟨p, 1, none⟩ = false) ∧ OwnO (W3.setCell ⟨p, 1, none⟩ v) B0 v (L ++ [o]) ∧ Bx (W3.setCell ⟨p, 1, none⟩ v) a 79 cs1 ∧ Bx (W3.setCell ⟨p, 1, none⟩ v) b 79 cs2 ∧ Bx (W3.setCell ⟨p, 1, none⟩ v) p 79 #[xt, v, ys] ∧
      OwnT (W3.setCell ⟨p, 1, none⟩ v) B0 xt T ∧ OwnS (W3.setCell ⟨p, 1, none⟩ v) B0 68 ys S ∧ Below B0 w (W3.setCell ⟨p, 1, none⟩ v) ∧ Bx W3 q tq cs4 ∧ Bx (W3.setCell ⟨p, 1, none⟩ v) q tq cs4 := by
  have b2 : Below wr.heap.size wr (W1.alloc (.cells #[i64 o.ty, y] 136)) := b1.alloc b1.size _
  have z2' := own_below z2 b2
  have nx := fun {g : Nat} {cs : Array Value} (hq : Bx (W1.alloc (.cells #[i64 o.ty, y] 136)) g 79 cs) => Bx.grown hq hgr (own_not_bx z2' hq (by decide))
  have r1 := nx (q1.below b2); have r2 := nx (q2.below b2); have r3 := nx (q3.below b2)
  have oS' : OwnS W3 B0 68 ys S := World.ownsRow.kept (own_below oS b2) hgr (own_unlike (own_below oS b2) z2' (by decide))
  have oT' : OwnT W3 B0 xt T := (oT.below b2).kept z2' hgr (by decide) (by decide)
  have oO : OwnO W3 B0 v (L ++ [o]) := OwnO.snoc z1 z2' hown (fun i x l h5 h6 => OwnW.below (z4 i x l h5 h6) b2) z5 (OwnW.below (own_mono oy hB) ((Below.refl _ W1).alloc (Nat.le_refl _) _))
    (fun i x hx => own_ne (z4 i x _ hx (List.getElem?_eq_getElem (by have := (List.getElem?_eq_some_iff.1 hx).1; omega))) oy (Nat.le_refl _)) hgr
  have B3 : Below B0 w W3 := (B.trans (b2.mono hB)).grown hgr (Nat.le_trans hB b2.size) (fun k hk => (z2'.lt k hk).1)
  refine ⟨⟨r3.cell 1, r3.free 1⟩, oO.set r3 (by decide) (by decide), r1.far (p := ⟨p, 1, none⟩) ha _, r2.far (p := ⟨p, 1, none⟩) hb _, ?_, oT'.set r3 (by decide) (by decide), own_set oS' r3 (by decide), B3.setCell (p := ⟨p, 1, none⟩) hp _, (q4.below b2).grown hgr hq, ((q4.below b2).grown hgr hq).far (p := ⟨p, 1, none⟩) hqp _⟩
  have := r3.set (i := 1) v
  simpa using this
/-- a literal of one object -/
theorem lit_obj {w : World} {ty : Int} {x : Value} : Rd (w.alloc (.cells #[i64 ty, x] 136)) 2 (.slice (some ⟨w.heap.size, 0, none⟩) 1 1) 1 [i64 ty, x] := lit_rdK (n := 1) (sz := 2) rfl (by omega)
theorem one_obj {ty : Int} {x : Value} (h : x.oneCell' = true) : ∀ u ∈ [i64 ty, x], u.oneCell' = true := by
  intro u hu
  rcases List.mem_cons.1 hu with rfl | hu
  · rfl
  · simp at hu; subst hu; exact h
theorem OwnM.set {w : World} {B p i : Nat} {tv ov sv u : Value} {m : Mo} {cs : Array Value} (h : OwnM w B 68 tv ov sv m) (hg : Bx w p 79 cs) : OwnM (w.setCell ⟨p, i, none⟩ u) B 68 tv ov sv m :=
  ⟨h.t.set hg (by decide) (by decide), h.o.set hg (by decide) (by decide), own_set h.s hg (by decide)⟩
/-- a model's three cells are stored elsewhere -/
theorem OwnM.set3 {w : World} {B p : Nat} {tv ov sv a b c : Value} {m : Mo} {cs : Array Value} (h : OwnM w B 68 tv ov sv m) (hg : Bx w p 79 cs) :
    OwnM (((w.setCell ⟨p, 0, none⟩ a).setCell ⟨p, 1, none⟩ b).setCell ⟨p, 2, none⟩ c) B 68 tv ov sv m :=
  ((h.set hg).set (hg.set a)).set ((hg.set a).set b)
end Go.Proofs.Ytbfmdbeeiicabaa
namespace Go.Proofs.Ytbfmdbeeiicabaa
open Go.RowKit L02 L13 L18 L20
structure GCopy where
  y : Value
  W1 : World
  v : Value
  W3 : World
theorem enter_CloneB (x : Value) (W : World) : (callFunc 146 (#[] ++ #[x] ++ #[])).run Try.prog W = .ok (.enter 146 #[x]) W := by
  simp [go_sem]
/-- the worlds of a round that copies one type -/
def wsT (w : World) (p : Nat) (g : GCopy) : Nat → World
  | 0 => w.drew
  | 1 => g.W1
  | 2 => g.W1.alloc (.cells #[g.y] 44)
  | 3 => g.W3
  | _ => g.W3.setCell ⟨p, 0, none⟩ g.v
theorem enter_CloneW (x : Value) (W : World) : (callFunc 80 (#[] ++ #[x] ++ #[])).run Try.prog W = .ok (.enter 80 #[x]) W := by
  simp [go_sem]
/-- the worlds of a round that copies one object -/
def wsO (w : World) (p : Nat) (ty : Int) (g : GCopy) : Nat → World
  | 0 => w.drew
  | 1 => g.W1
  | 2 => g.W1
  | 3 => g.W1.alloc (.cells #[i64 ty, g.y] 136)
  | 4 => g.W3
  | _ => g.W3.setCell ⟨p, 1, none⟩ g.v
set_option maxRecDepth 100000 in
set_option maxHeartbeats 4000000 in
theorem copied_any (tv ov sv : Value) (m : Mo) (hsm : Small m) (w : World) (h : Mod w tv ov sv m) :
    Calls Try.prog 121 #[.agg #[tv, ov, sv]] w fun e w' => ∃ tv' ov' sv', e = .returned (.agg #[tv', ov', sv']) ∧ OwnM w' w.heap.size 68 tv' ov' sv' m ∧ Below w.heap.size w w' := by
  have B : Below w.heap.size w w := Below.refl _ _
  have lt := h.t.len; have lo := h.o.len
  obtain ⟨NT, hNT⟩ : ∃ N, N = m.types.length := ⟨_, rfl⟩
  obtain ⟨NO, hNO⟩ : ∃ N, N = m.objs.length := ⟨_, rfl⟩
  rw [← hNT] at lt; rw [← hNO] at lo
  obtain ⟨s1, s2, s3, s4, s5⟩ := hsm
  have CS := Lib.hid (fun w h => CloneS_any sv m.slots (by omega) w h)
  have hNT20 : NT ≤ 20 := by omega
  have hNO962 : NO ≤ 962 := by omega
  have H := Lib.hid h; have HNT := Lib.hid hNT; have HNO := Lib.hid hNO; have S4 := Lib.hid s4; have S5 := Lib.hid s5
  clear h hNT hNO s4 s5 s1 s2 s3
  go_enter Try.func121, Try.ntmps121
  go_upto_region 1 with (fail)
  refine wp_gen (fun Wv => Bx Wv (w.heap.size) (79) (#[tv, ov, sv]) ∧ Bx Wv (w.heap.size + 1) (79) (#[.slice none 0 0, .slice none 0 0, .slice none 0 0]) ∧ Below w.heap.size w Wv) ⟨(((Bx.at_ (by simp)).alloc _)), ((Bx.at_ (by simp))), (((Below.refl _ w).alloc (by simp <;> omega) _).alloc (by simp <;> omega) _)⟩ ?_
  rintro wa1 ⟨g1, g2, b⟩
  replace B := B.trans (b.mono B.size); clear b
  have c_g1 := g1.cell; have f_g1 := g1.free; have a_g1 := fun o => (g1.alloc o).cell; have d_g1 := fun o o2 => ((g1.alloc o).alloc o2).cell; have e_g1 := fun o => (g1.alloc o).free
  have c_g2 := g2.cell; have f_g2 := g2.free; have a_g2 := fun o => (g2.alloc o).cell; have d_g2 := fun o o2 => ((g2.alloc o).alloc o2).cell; have e_g2 := fun o => (g2.alloc o).free
  have hz1 := B.size
  go_wp2_with fail
  refine (CS.out _ (H.out.s.below B)).mono ?_
  rintro e wa2 ⟨ys, rfl, oS, b⟩
  try clear c_g1 f_g1 a_g1 d_g1 e_g1
  replace g1 := g1.below b; have c_g1 := g1.cell; have f_g1 := g1.free; have a_g1 := fun o => (g1.alloc o).cell; have d_g1 := fun o o2 => ((g1.alloc o).alloc o2).cell; have e_g1 := fun o => (g1.alloc o).free; try clear c_g2 f_g2 a_g2 d_g2 e_g2
  replace g2 := g2.below b; have c_g2 := g2.cell; have f_g2 := g2.free; have a_g2 := fun o => (g2.alloc o).cell; have d_g2 := fun o o2 => ((g2.alloc o).alloc o2).cell; have e_g2 := fun o => (g2.alloc o).free; replace B := B.trans (b.mono B.size); clear b
  obtain ⟨yA, yn, yc, rfl⟩ : ∃ A n c, ys = .slice A n c := by obtain ⟨A, c, e⟩ := own_form' oS; exact ⟨A, _, c, e⟩
  have hq1 := g1.lt; have hq2 := g2.lt; have hp0 := B.size
  replace oS : OwnS _ w.heap.size 68 _ m.slots := own_mono oS hz1
  go_upto_region 2 with (fail)
  refine wp_gen (fun Wv => Bx Wv (wa2.heap.size) (79) (#[.slice none 0 0, .slice none 0 0, .slice yA yn yc]) ∧ Below wa2.heap.size wa2 Wv) ⟨((Bx.at_ (by simp))), ((Below.refl _ wa2).alloc (by simp <;> omega) _)⟩ ?_
  rintro wa3 ⟨g3, b⟩
  try clear c_g1 f_g1 a_g1 d_g1 e_g1
  replace g1 := g1.below b; have c_g1 := g1.cell; have f_g1 := g1.free; have a_g1 := fun o => (g1.alloc o).cell; have d_g1 := fun o o2 => ((g1.alloc o).alloc o2).cell; have e_g1 := fun o => (g1.alloc o).free; try clear c_g2 f_g2 a_g2 d_g2 e_g2
  replace g2 := g2.below b; have c_g2 := g2.cell; have f_g2 := g2.free; have a_g2 := fun o => (g2.alloc o).cell; have d_g2 := fun o o2 => ((g2.alloc o).alloc o2).cell; have e_g2 := fun o => (g2.alloc o).free; replace oS := oS.below b; replace B := B.trans (b.mono B.size); clear b
  have c_g3 := g3.cell; have f_g3 := g3.free; have a_g3 := fun o => (g3.alloc o).cell; have d_g3 := fun o o2 => ((g3.alloc o).alloc o2).cell; have e_g3 := fun o => (g3.alloc o).free
  generalize wa2.heap.size = p at *
  have HB := Lib.hid B; have HG := Lib.hid (And.intro g1 (And.intro g2 (And.intro g3 oS)))
  clear B g1 g2 g3 oS c_g1 c_g2 f_g1 f_g2 a_g1 a_g2 d_g1 d_g2 e_g1 e_g2 c_g3 f_g3 a_g3 d_g3 e_g3
  have hwa := HG.out.1.cell
  go_wp2
  clear hwa
  go_loopg [15] NT (fun g i wr => ∃ j : Nat, j ≤ NT ∧ g = NT - j ∧ i = .int .i64 j ∧ Hid (∃ xt, OwnT wr w.heap.size xt (m.types.take j) ∧ Bx wr w.heap.size 79 #[tv, ov, sv] ∧ Bx wr (w.heap.size + 1) 79 #[.slice none 0 0, .slice none 0 0, .slice none 0 0] ∧ Bx wr p 79 #[xt, .slice none 0 0, .slice yA yn yc] ∧ OwnS wr w.heap.size 68 (.slice yA yn yc) m.slots ∧ Below w.heap.size w wr))
  case atStart => exact ⟨0, by omega, by omega, rfl, Lib.hid ⟨_, OwnT.nil _ _, HG.out.1, HG.out.2.1, HG.out.2.2.1, HG.out.2.2.2, HB.out⟩⟩
  case round =>
    clear HG HB
    obtain ⟨j, hj, rfl, rfl, hh⟩ := hrel
    by_cases hlt : j < NT
    · obtain ⟨xt, oT, q1, q2, q3, oS, B⟩ := hh.out
      obtain ⟨ad, x, t, ix, m0, ht, hby⟩ := (H.out.t.below B).at_ (k := j) (by have := HNT.out; omega)
      have htl : t.length ≤ 20 := S4.out t (List.mem_of_getElem? ht.out)
      have CB := Lib.hid (fun w h => CloneB_any x t (by omega) w h)
      obtain ⟨vs, z1, z2, z4⟩ := oT
      have hB := B.size
      have htk : (m.types.take j).length = j := by rw [List.length_take]; have := HNT.out; omega
      go_upto_region 5 with (fail)
      have HT := Lib.hid ht; have HQ := Lib.hid (And.intro q1 (And.intro q2 (And.intro q3 (And.intro oS (And.intro B (And.intro z1 (And.intro z2 z4))))))) 
      have c3 := q3.cell
      refine wp_region_G (val := GCopy.y) (V := fun g => OwnB g.W1 wr.heap.size 5 g.y t ∧ Below wr.heap.size wr g.W1 ∧ (Builtin.append_ #[39, 39] 39 #[xt, .slice (some ⟨g.W1.heap.size, 0, none⟩) 1 1]).run Try.prog (g.W1.alloc (.cells #[g.y] 44)) = .ok g.v g.W3 ∧
          g.W3.ownsRow w.heap.size 44 1 g.v (j + 1) (vs ++ [g.y]) ∧ (g.W1.alloc (.cells #[g.y] 44)).grownBy g.W3 xt.ownBlock)
        (F := fun g => FL [3, 4, 5, 7] (wsT wr p g) 1 2) [1, 3, 4, 5, 7] 3 ⟨undef, wr, undef, wr⟩ 146 #[x] (fun g => FL.dep) (by kernel_rfl) (by kernel_rfl) (by kernel_rfl) (fun g g' φ W hφ hF => FL.agree (Ws := wsT wr p g) (Ws' := wsT wr p g') (k0 := 3) rfl rfl hφ hF) FL.start (by decide) ?_ ?_
      · intro φ W hφ hF
        obtain ⟨rfl, _⟩ := FL.step (i := 0) rfl (by decide) hF hφ (by intro p hp; omega) (by omega)
        refine (CB.out wr.drew hby.out).mono ?_
        rintro e W1 ⟨y, rfl, oy, b1⟩
        have b1' : Below wr.heap.size wr W1 := (Below.refl _ wr).drew.trans b1
        have hz := b1'.size
        obtain ⟨v, W3, r1, r2, r3⟩ := run_append_rd (P := Try.prog) (w := W1.alloc (.cells #[y] 44)) (ty := 39) (B := w.heap.size) Try.underlying39 info_bytes rfl (by omega) (own_below z2 (b1'.alloc hz _)) lit_rd (by intro u hu; simp at hu; subst hu; exact (OwnB.rd oy).oneCell) (by omega) (by omega) (by simp; omega)
        rw [htk] at r2
        have hF' := FL.agree (Ws := wsT wr p ⟨undef, wr, undef, wr⟩) (Ws' := wsT wr p ⟨y, W1, v, W3⟩) (k0 := 3) rfl rfl hφ hF
        exact ⟨⟨y, W1, v, W3⟩, ⟨oy, b1', r1, r2, r3⟩, rfl, (FL.step (i := 0) rfl (by decide) hF' hφ (by intro p hp; omega) (by omega)).2⟩
      · rintro ⟨y, W1, v, W3⟩ ⟨oy, b1, r1, r2, r3⟩
        dsimp only at oy b1 r1 r2 r3 ⊢
        obtain ⟨q1, q2, q3, oS, B, z1, z2, z4⟩ := HQ.out
        have MM := Lib.hid (copyT_mem (t := t) (a := w.heap.size) (b := w.heap.size + 1) (p := p) z1 z2 z4 oy b1 r2 r3 q1 q2 q3 oS B hB (by omega) (by omega) (by omega) (Nat.le_refl _))
        obtain ⟨yyA, yyn, yyc, rfl⟩ : ∃ A n c, y = .slice A n c := by obtain ⟨A, c, e⟩ := own_form' oy; exact ⟨A, _, c, e⟩
        obtain ⟨vA, vn, vc, rfl⟩ : ∃ A n c, v = .slice A n c := by obtain ⟨A, c, e⟩ := own_form' r2; exact ⟨A, _, c, e⟩
        have b1c := (q3.below b1).cell 0; have b2c := ((q3.below b1).alloc (.cells #[.slice yyA yyn yyc] 44)).cell 0
        have b0c := (q3.below (Below.refl _ wr).drew).cell 0
        haveI : Nonempty (FXN (FL [3, 4, 5, 7] (wsT wr p ⟨.slice yyA yyn yyc, W1, .slice vA vn vc, W3⟩) 1 2)) := ⟨⟨_, _, FL.start⟩⟩
        refine wpG_read FL.dep rfl (by decide) (by decide) ?_; go_big_quiet_step (fail); refine wpQuiet_nil ?_
        refine wpG_step FL.dep (by decide) rfl (by rfl) (v := xt) [] rfl (fun f W hF h0 _ => ?_) ?_
        · obtain ⟨⟨d, hd, hd2, rfl⟩, hF'⟩ := FL.read (by decide) hF h0
          refine ⟨_, ?_, hF'⟩
          have hc : (wsT wr p ⟨.slice yyA yyn yyc, W1, .slice vA vn vc, W3⟩ d).cell? ⟨p, 0, none⟩ = some xt := by
            rcases d with _ | _ | _ | d
            · exact b0c
            · exact b1c
            · exact b2c
            · omega
          simp [execOp, go_sem, hc]
        simp only [Act.put, List.setIfInBounds_toArray, List.set_cons_zero, List.set_cons_succ]
        refine wpG_read FL.dep rfl (by decide) (by decide) ?_; go_big_quiet_step (fail); refine wpQuiet_nil ?_
        refine wpG_call #[x] rfl (by simp [Act.eval]) (enter_CloneB x) ?_
        simp only [Act.put, List.setIfInBounds_toArray, List.set_cons_zero, List.set_cons_succ]
        refine wpG_step FL.dep (by decide) rfl (by rfl) (v := .slice (some ⟨W1.heap.size, 0, none⟩) 1 1) [3] (by kernel_rfl) (fun f W hF h0 h1 => ?_) ?_
        · obtain ⟨rfl, h2⟩ := FL.step (i := 1) rfl (by decide) hF h0 (FL.prev (p := 0) (q := 3) rfl (h1 3 (by simp))) (by omega)
          refine ⟨_, ?_, h2⟩
          simp [execOp, go_sem, wsT]
        simp only [Act.put, List.setIfInBounds_toArray, List.set_cons_zero, List.set_cons_succ]
        refine wpG_step FL.dep (by decide) rfl (by rfl) (v := .slice vA vn vc) [4, 1] (by kernel_rfl) (fun f W hF h0 h1 => ?_) ?_
        · obtain ⟨rfl, h2⟩ := FL.step (i := 2) rfl (by decide) hF h0 (FL.prev (p := 1) (q := 4) rfl (h1 4 (by simp))) (fun _ => h1 1 (by simp))
          exact ⟨_, by simp [execOp, resolve, invoke, builtin, Act.eval, wsT, r1], h2⟩
        simp only [Act.put, List.setIfInBounds_toArray, List.set_cons_zero, List.set_cons_succ]
        refine wpG_read FL.dep rfl (by decide) (by decide) ?_; go_big_quiet_step (fail); refine wpQuiet_nil ?_
        refine wpG_store FL.dep (by decide) rfl 39 (.tmp 25) (.tmp 24) rfl (by rfl) (p := .pointer (some ⟨p, 0, none⟩)) (u := .slice vA vn vc) (by rfl) (by rfl) [5] (by kernel_rfl) (fun f W hF h0 h1 => ?_) ?_
        · obtain ⟨rfl, h2⟩ := FL.step (i := 3) rfl (by decide) hF h0 (FL.prev (p := 2) (q := 5) rfl (h1 5 (by simp))) (by omega)
          refine ⟨_, ?_, h2⟩
          have hc := MM.out.1.1; have hf := MM.out.1.2
          simp [go_sem, wsT, hc, hf]
        refine wpG_nil ?_
        intro w' hw'
        obtain rfl := FL.done hw'
        have HM := Lib.hid (MM.out.2)
        clear this MM HQ q1 q2 q3 oS B z1 z2 z4 b1c b2c b0c hw' r1 r2 r3 oy b1 c3
        go_wp2
        go_roundg (NT - (j + 1))
        case measure => omega
        case rel =>
          refine ⟨j + 1, by omega, rfl, by go_num, Lib.hid ⟨_, ?_, HM.out.2⟩⟩
          have := HM.out.1
          rwa [List.take_add_one, HT.out.out]
    · obtain rfl : j = NT := by omega
      obtain ⟨xt, oT, q1, q2, q3, oS, B⟩ := hh.out
      rw [List.take_of_length_le (by have := HNT.out; omega)] at oT
      clear hh
      have hwa := q1.cell
      have HG := Lib.hid (And.intro q1 (And.intro q2 (And.intro q3 (And.intro oT oS)))); have HB := Lib.hid B
      clear q1 q2 q3 oT oS B
      go_wp2
      clear hwa
      go_loopg [30] NO (fun g i wr => ∃ k : Nat, k ≤ NO ∧ g = NO - k ∧ i = .int .i64 k ∧ Hid (∃ ot, OwnO wr w.heap.size ot (m.objs.take k) ∧ Bx wr w.heap.size 79 #[tv, ov, sv] ∧ Bx wr (w.heap.size + 1) 79 #[.slice none 0 0, .slice none 0 0, .slice none 0 0] ∧ Bx wr p 79 #[xt, ot, .slice yA yn yc] ∧ OwnT wr w.heap.size xt m.types ∧ OwnS wr w.heap.size 68 (.slice yA yn yc) m.slots ∧ Below w.heap.size w wr))
      case atStart => exact ⟨0, by omega, by omega, rfl, Lib.hid ⟨_, OwnO.nil _ _, HG.out.1, HG.out.2.1, HG.out.2.2.1, HG.out.2.2.2.1, HG.out.2.2.2.2, HB.out⟩⟩
      case round =>
        clear HG HB
        obtain ⟨k, hk, rfl, rfl, hh⟩ := hrel
        by_cases hltk : k < NO
        · obtain ⟨ot, oO, q1, q2, q3, oT, oS, B⟩ := hh.out
          obtain ⟨ob, oq, x, o, ix, m0, m1, ho, hx, hob⟩ := (H.out.o.below B).at_ (k := k) (by have := HNO.out; omega)
          have hol : o.fs.length ≤ 20 := S5.out o (List.mem_of_getElem? ho.out)
          have CW := Lib.hid (fun w h => CloneW_any x o.fs (by omega) w h)
          have hxx := hx.out
          have hlt0 : ot.ownBlock = none ∨ ot.ownBlock ≠ some wr.heap.size := by
            obtain ⟨vs, z1, z2, _⟩ := oO
            cases hob : ot.ownBlock with
            | none => exact .inl rfl
            | some g => have := (z2.lt g hob).2; exact .inr (by simp; omega)
          have hpl := q3.lt
          have htk : (m.objs.take k).length = k := by rw [List.length_take]; have := HNO.out; omega
          obtain ⟨xA, xn, xc, rfl⟩ : ∃ A n c, x = .slice A n c := by obtain ⟨A, c, e, _⟩ := hxx; exact ⟨A, _, c, e⟩
          clear hh hx
          go_upto_region 10 with (fail)
          refine wp_gen (fun Wv => Bx Wv (wr.heap.size) (136) (#[.int .i64 o.ty, .slice xA xn xc]) ∧ Below wr.heap.size wr Wv) ⟨((Bx.at_ (by simp))), ((Below.refl _ wr).alloc (by simp <;> omega) _)⟩ ?_
          rintro wa1 ⟨g4, b⟩
          replace q1 := q1.below b; replace q2 := q2.below b; replace q3 := q3.below b; replace oT := oT.below b; replace oS := oS.below b; replace oO := oO.below b; replace hxx := hxx.below b; replace B := B.trans (b.mono B.size); clear b
          have c_g4 := g4.cell; have f_g4 := g4.free; have a_g4 := fun o => (g4.alloc o).cell; have d_g4 := fun o o2 => ((g4.alloc o).alloc o2).cell; have e_g4 := fun o => (g4.alloc o).free
          clear m0 m1
          obtain ⟨vs, z1, z2, z4, z5⟩ := oO
          have hB := B.size
          have HT := Lib.hid ho; have HQ := Lib.hid (And.intro q1 (And.intro q2 (And.intro q3 (And.intro oT (And.intro oS (And.intro B (And.intro z1 (And.intro z2 (And.intro z4 z5)))))))))
          clear c_g4 f_g4 a_g4 d_g4 e_g4
          refine wp_region_G (val := GCopy.y) (V := fun g => OwnW g.W1 wa1.heap.size 34 g.y o.fs ∧ Below wa1.heap.size wa1 g.W1 ∧ (Builtin.append_ #[77, 77] 77 #[ot, .slice (some ⟨g.W1.heap.size, 0, none⟩) 1 1]).run Try.prog (g.W1.alloc (.cells #[i64 o.ty, g.y] 136)) = .ok g.v g.W3 ∧
              g.W3.ownsRow w.heap.size 136 2 g.v (k + 1) (obC (m.objs.take k) vs ++ [i64 o.ty, g.y]) ∧ (g.W1.alloc (.cells #[i64 o.ty, g.y] 136)).grownBy g.W3 ot.ownBlock)
            (F := fun g => FL [6, 7, 8, 9, 11] (wsO wa1 p o.ty g) 1 3) [1, 6, 7, 8, 9, 11] 6 ⟨undef, wr, undef, wr⟩ 80 #[.slice xA xn xc] (fun g => FL.dep) (by kernel_rfl) (by kernel_rfl) (by kernel_rfl) (fun g g' φ W hφ hF => FL.agree (Ws := wsO wa1 p o.ty g) (Ws' := wsO wa1 p o.ty g') (k0 := 6) rfl rfl hφ hF) FL.start (by decide) ?_ ?_
          · intro φ W hφ hF
            obtain ⟨rfl, _⟩ := FL.step (i := 0) rfl (by decide) hF hφ (by intro p hp; omega) (by omega)
            refine (CW.out wa1.drew hxx).mono ?_
            rintro e W1 ⟨y, rfl, oy, b1⟩
            have b1' : Below wa1.heap.size wa1 W1 := (Below.refl _ wa1).drew.trans b1
            have hz := b1'.size
            obtain ⟨v, W3, r1, r2, r3⟩ := run_append_rd (P := Try.prog) (w := W1.alloc (.cells #[i64 o.ty, y] 136)) (ty := 77) (B := w.heap.size) Try.underlying77 info_obj rfl (by omega) (own_below z2 (b1'.alloc hz _)) lit_obj (one_obj (OwnW.rd oy).oneCell) (by omega) (by omega) (by simp; omega)
            rw [htk] at r2
            have hF' := FL.agree (Ws := wsO wa1 p o.ty ⟨undef, wr, undef, wr⟩) (Ws' := wsO wa1 p o.ty ⟨y, W1, v, W3⟩) (k0 := 6) rfl rfl hφ hF
            exact ⟨⟨y, W1, v, W3⟩, ⟨oy, b1', r1, r2, r3⟩, rfl, (FL.step (i := 0) rfl (by decide) hF' hφ (by intro p hp; omega) (by omega)).2⟩
          · rintro ⟨y, W1, v, W3⟩ ⟨oy, b1, r1, r2, r3⟩
            dsimp only at oy b1 r1 r2 r3 ⊢
            have MM := Lib.hid (copyO_mem (o := o) (a := w.heap.size) (b := w.heap.size + 1) (p := p) z1 z2 z4 z5 oy b1 r2 r3 q1 q2 q3 oT oS B hB (by omega) (by omega) (by omega) g4 hlt0 (by omega))
            obtain ⟨yyA, yyn, yyc, rfl⟩ : ∃ A n c, y = .slice A n c := by obtain ⟨A, c, e⟩ := own_form' oy; exact ⟨A, _, c, e⟩
            obtain ⟨vA, vn, vc, rfl⟩ : ∃ A n c, v = .slice A n c := by obtain ⟨A, c, e⟩ := own_form' r2; exact ⟨A, _, c, e⟩
            have b1c := (q3.below b1).cell 1; have b2c := ((q3.below b1).alloc (.cells #[i64 o.ty, .slice yyA yyn yyc] 136)).cell 1
            have b0c := (q3.below (Below.refl _ wa1).drew).cell 1
            have c4 := fun x : FXN (FL [6, 7, 8, 9, 11] (wsO wa1 p o.ty ⟨.slice yyA yyn yyc, W1, .slice vA vn vc, W3⟩) 1 3) => (FL.all (p := fun W => Bx W wr.heap.size 136 #[.int .i64 o.ty, .slice xA xn xc]) (by
              intro d hd
              rcases d with _ | _ | _ | _ | _ | d
              · exact g4.below (Below.refl _ wa1).drew
              · exact g4.below b1
              · exact g4.below b1
              · exact (g4.below b1).alloc _
              · exact MM.out.2.2.2.2.2.2.2.2.1
              · exact MM.out.2.2.2.2.2.2.2.2.2) x).cell
            haveI : Nonempty (FXN (FL [6, 7, 8, 9, 11] (wsO wa1 p o.ty ⟨.slice yyA yyn yyc, W1, .slice vA vn vc, W3⟩) 1 3)) := ⟨⟨_, _, FL.start⟩⟩
            refine wpG_read FL.dep rfl (by decide) (by decide) ?_; go_big_quiet_step (fail); refine wpQuiet_nil ?_
            refine wpG_step FL.dep (by decide) rfl (by rfl) (v := ot) [] rfl (fun f W hF h0 _ => ?_) ?_
            · obtain ⟨⟨d, hd, hd2, rfl⟩, hF'⟩ := FL.read (by decide) hF h0
              refine ⟨_, ?_, hF'⟩
              have hc : (wsO wa1 p o.ty ⟨.slice yyA yyn yyc, W1, .slice vA vn vc, W3⟩ d).cell? ⟨p, 1, none⟩ = some ot := by
                rcases d with _ | _ | _ | _ | d
                · exact b0c
                · exact b1c
                · exact b1c
                · exact b2c
                · omega
              simp [execOp, go_sem, hc]
            simp only [Act.put, List.setIfInBounds_toArray, List.set_cons_zero, List.set_cons_succ]
            iterate 4 (refine wpG_read FL.dep rfl (by decide) (by decide) ?_; go_big_quiet_step (fail); refine wpQuiet_nil ?_)
            refine wpG_call #[.slice xA xn xc] rfl (by simp [Act.eval]) (enter_CloneW _) ?_
            simp only [Act.put, List.setIfInBounds_toArray, List.set_cons_zero, List.set_cons_succ]
            refine wpG_step FL.dep (by decide) rfl (by rfl) (v := .agg #[i64 o.ty, .slice yyA yyn yyc]) [6] (by kernel_rfl) (fun f W hF h0 h1 => ?_) ?_
            · obtain ⟨rfl, h2⟩ := FL.step (i := 1) rfl (by decide) hF h0 (FL.prev (p := 0) (q := 6) rfl (h1 6 (by simp))) (by omega)
              refine ⟨_, ?_, h2⟩
              simp [execOp, go_sem, wsO, i64]
            simp only [Act.put, List.setIfInBounds_toArray, List.set_cons_zero, List.set_cons_succ]
            refine wpG_step FL.dep (by decide) rfl (by rfl) (v := .slice (some ⟨W1.heap.size, 0, none⟩) 1 1) [7] (by kernel_rfl) (fun f W hF h0 h1 => ?_) ?_
            · obtain ⟨rfl, h2⟩ := FL.step (i := 2) rfl (by decide) hF h0 (FL.prev (p := 1) (q := 7) rfl (h1 7 (by simp))) (by omega)
              refine ⟨_, ?_, h2⟩
              simp [execOp, go_sem, wsO, i64]
            simp only [Act.put, List.setIfInBounds_toArray, List.set_cons_zero, List.set_cons_succ]
            refine wpG_step FL.dep (by decide) rfl (by rfl) (v := .slice vA vn vc) [8, 1] (by kernel_rfl) (fun f W hF h0 h1 => ?_) ?_
            · obtain ⟨rfl, h2⟩ := FL.step (i := 3) rfl (by decide) hF h0 (FL.prev (p := 2) (q := 8) rfl (h1 8 (by simp))) (fun _ => h1 1 (by simp))
              exact ⟨_, by simp [execOp, resolve, invoke, builtin, Act.eval, wsO, r1], h2⟩
            simp only [Act.put, List.setIfInBounds_toArray, List.set_cons_zero, List.set_cons_succ]
            refine wpG_read FL.dep rfl (by decide) (by decide) ?_; go_big_quiet_step (fail); refine wpQuiet_nil ?_
            refine wpG_store FL.dep (by decide) rfl 77 (.tmp 44) (.tmp 43) rfl (by rfl) (p := .pointer (some ⟨p, 1, none⟩)) (u := .slice vA vn vc) (by rfl) (by rfl) [9] (by kernel_rfl) (fun f W hF h0 h1 => ?_) ?_
            · obtain ⟨rfl, h2⟩ := FL.step (i := 4) rfl (by decide) hF h0 (FL.prev (p := 3) (q := 9) rfl (h1 9 (by simp))) (by omega)
              refine ⟨_, ?_, h2⟩
              have hc := MM.out.1.1; have hf := MM.out.1.2
              simp [go_sem, wsO, hc, hf]
            refine wpG_nil ?_
            intro w' hw'
            obtain rfl := FL.done hw'
            have HM := Lib.hid (MM.out.2)
            clear this MM HQ q1 q2 q3 oT oS B z1 z2 z4 z5 b1c b2c b0c hw' r1 r2 r3 oy b1 c4 g4 hxx
            go_wp2
            go_roundg (NO - (k + 1))
            case measure => omega
            case rel =>
              obtain ⟨k1, k2, k3, k4, k5, k6, k7, _⟩ := HM.out
              refine ⟨k + 1, by omega, rfl, by go_num, Lib.hid ⟨_, ?_, k2, k3, k4, k5, k6, k7⟩⟩
              rwa [List.take_add_one, HT.out.out]
        · obtain rfl : k = NO := by omega
          obtain ⟨ot, oO, q1, q2, q3, oT, oS, B⟩ := hh.out
          rw [List.take_of_length_le (by have := HNO.out; omega)] at oO
          obtain ⟨oA, on, oc, rfl⟩ : ∃ A n c, ot = .slice A n c := by obtain ⟨vs, _, z2, _⟩ := oO; obtain ⟨A, c, e⟩ := own_form' z2; exact ⟨A, _, c, e⟩
          obtain ⟨xA, xn, xc, rfl⟩ : ∃ A n c, xt = .slice A n c := by obtain ⟨vs, _, z2, _⟩ := oT; obtain ⟨A, c, e⟩ := own_form' z2; exact ⟨A, _, c, e⟩
          have c2 := q2.cell; have c3 := q3.cell; have f2 := q2.free
          have OO := Lib.hid (And.intro oT (And.intro oO oS)); have HB := Lib.hid B
          clear hh q1 oT oO oS B
          go_wp2
          refine bodyPost_ret (v := .agg #[.slice xA xn xc, .slice oA on oc, .slice yA yn yc]) (by simp [results, Try.results121, go_sem, c2, c3, f2]) rfl ?_
          refine ⟨_, _, _, rfl, OwnM.set3 ⟨OO.out.1, OO.out.2.1, OO.out.2.2⟩ q2, ?_⟩
          have B := HB.out
          exact ((B.setCell (p := ⟨w.heap.size + 1, 0, none⟩) (by simp) _).setCell (p := ⟨w.heap.size + 1, 1, none⟩) (by simp) _).setCell (p := ⟨w.heap.size + 1, 2, none⟩) (by simp) _
end Go.Proofs.Ytbfmdbeeiicabaa
namespace Go.Proofs.Ytbfmdbeeiicabaa
open Go.RowKit L02 L13 L18 L20
end Go.Proofs.Ytbfmdbeeiicabaa
namespace Go.Proofs.Ytbfmdbeeiicabaa
open Go.RowKit L02 L13 L18 L20
end Go.Proofs.Ytbfmdbeeiicabaa
namespace Go.Proofs.Ytbfmdbeeiicabaa
open Go.RowKit L02 L13 L18 L20
end Go.Proofs.Ytbfmdbeeiicabaa
namespace Go.Proofs.Ytbfmdbeeiicabaa
open Go Go.RowKit
section
variable {P : Program} {ops : Array Oper} {md : Region.Mode}
/-- a number of nn yields its value, whatever its world; the others as they do -/
def YieldsM (P : Program) (md : Region.Mode) (ops : Array Oper) (C : Array Bool → World → Prop) (nn : Nat → Bool) (x : Nat → Value) (i : Nat) (o : Oper) (v : Value) (a : Act) : Prop :=
  (nn i = true ∧ v = x i ∧ Region.wanted o (yielded ops a.tmps) = true) ∨ (nn i = false ∧ YieldsV P md ops C i o v a)
theorem YieldsM.of_same {C : Array Bool → World → Prop} {nn : Nat → Bool} {x : Nat → Value} {i : Nat} {o : Oper} {v : Value} {a a' : Act} (hy : YieldsM P md ops C nn x i o v a) (he : execOp a'.eval o = execOp a.eval o)
    (hw : Region.wanted o (yielded ops a'.tmps) = Region.wanted o (yielded ops a.tmps)) : YieldsM P md ops C nn x i o v a' := by
  rcases hy with ⟨h1, h2, h3⟩ | ⟨h1, h2⟩
  · exact .inl ⟨h1, h2, by rw [hw]; exact h3⟩
  · exact .inr ⟨h1, h2.of_same he hw⟩
/-- T a: what the operation k0 does at the act a -/
def qOpM (P : Program) (md : Region.Mode) (ops : Array Oper) (C : Array Bool → World → Prop) (nn : Nat → Bool) (x : Nat → Value) (T : Nat → Sem Next → Prop) (i : Nat) (K : Act → Prop) (a : Act) : Prop :=
  match ops[i]? with
  | none => False
  | some o => ∃ v, (YieldsM P md ops C nn x i o v a ∧ (nn i = true → T i (execOp a.eval o))) ∧ K (a.put o.dst v)
variable {C : Array Bool → World → Prop} {nn : Nat → Bool} {x : Nat → Value} {T : Nat → Sem Next → Prop}
theorem qOpM_mono {i : Nat} {a : Act} {K K' : Act → Prop} (h : ∀ a, K a → K' a) (hh : qOpM P md ops C nn x T i K a) : qOpM P md ops C nn x T i K' a := by
  unfold qOpM at *
  split
  · rename_i ho; simp only [ho] at hh
  · rename_i o ho
    simp only [ho] at hh
    obtain ⟨v, h1, h2⟩ := hh
    exact ⟨v, h1, h _ h2⟩
def wpAnyM (P : Program) (md : Region.Mode) (ops : Array Oper) (C : Array Bool → World → Prop) (nn : Nat → Bool) (x : Nat → Value) (T : Nat → Sem Next → Prop) (Q : Array Bool → Act → Prop) : Nat → Array Bool → Act → Prop
  | 0, listed, a => Region.ready md ops listed = [] ∧ Q listed a
  | fuel + 1, listed, a =>
    (Region.ready md ops listed = [] → Q listed a) ∧
    ∀ i ∈ Region.ready md ops listed, qOpM P md ops C nn x T i (wpAnyM P md ops C nn x T Q fuel (listed.setIfInBounds i true)) a
theorem qOpM_put {i j : Nat} {oi oj : Oper} {v : Value} (hj : ops[j]? = some oj) (hap : oi.apart ops oj = true)
    (hsi : ∀ cs b, oi.op ≠ .select cs b) (hsj : ∀ cs b, oj.op ≠ .select cs b) {K : Act → Prop} {a : Act}
    (hy : YieldsM P md ops C nn x i oi v a ∧ (nn i = true → T i (execOp a.eval oi))) (h : qOpM P md ops C nn x T j K (a.put oi.dst v)) :
    qOpM P md ops C nn x T j (fun a' => (YieldsM P md ops C nn x i oi v a' ∧ (nn i = true → T i (execOp a'.eval oi))) ∧ K (a'.put oi.dst v)) a := by
  obtain ⟨h1, h2, h3⟩ := Oper.apart_spec hap
  unfold qOpM at *
  simp only [hj] at *
  obtain ⟨u, ⟨hu, hu2⟩, hn⟩ := h
  refine ⟨u, ⟨hu.of_same ?_ ?_, fun e => ?_⟩, ⟨hy.1.of_same ?_ ?_, fun e => ?_⟩, ?_⟩
  · exact (execOp_put oj hsj a oi.dst v h1).symm
  · exact (wanted_put oj a oi.dst v h1).symm
  · have := hu2 e; rwa [execOp_put oj hsj a oi.dst v h1] at this
  · exact execOp_put oi hsi a oj.dst u h3
  · exact wanted_put oi a oj.dst u h3
  · have := hy.2 e; rwa [execOp_put oi hsi a oj.dst u h3]
  · rw [← Act.put_comm a v u h2]; exact hn
theorem wpAnyM_first {Q : Array Bool → Act → Prop} {i : Nat} {oi : Oper} {v : Value} (hi : ops[i]? = some oi) (hsel : ∀ (j : Nat) (o : Oper) cs b, ops[j]? = some o → o.op ≠ .select cs b) :
    ∀ (fuel : Nat) (listed : Array Bool) (a : Act),
      (∀ j oj, ops[j]? = some oj → j ≠ i → listed.getD j true = false → (∀ e ∈ oj.after, Region.binds md e = true → e.on ≠ i) → oi.apart ops oj = true) →
      i ∈ Region.ready md ops listed → YieldsM P md ops C nn x i oi v a ∧ (nn i = true → T i (execOp a.eval oi)) →
      wpAnyM P md ops C nn x T Q fuel (listed.setIfInBounds i true) (a.put oi.dst v) → wpAnyM P md ops C nn x T Q (fuel + 1) listed a := by
  intro fuel
  induction fuel with
  | zero =>
    intro listed a _ hr hy H
    refine ⟨fun h => (by rw [h] at hr; cases hr), fun j hj => ?_⟩
    by_cases hji : j = i
    · subst hji
      unfold qOpM; simp only [hi]
      exact ⟨v, hy, H⟩
    · have := ready_mono hj hji
      rw [H.1] at this
      cases this
  | succ fuel ih =>
    intro listed a hfree hr hy H
    refine ⟨fun h => (by rw [h] at hr; cases hr), fun j hj => ?_⟩
    by_cases hji : j = i
    · subst hji
      unfold qOpM; simp only [hi]
      exact ⟨v, hy, H⟩
    · have h1 := H.2 j (ready_mono hj hji)
      obtain ⟨hjun, oj, hoj, hall⟩ := mem_ready.1 hj
      have hnot : ∀ e ∈ oj.after, Region.binds md e = true → e.on ≠ i := fun e he hb heq => by
        have h1 := hall e he hb
        have h0 := (mem_ready.1 hr).1
        rw [heq] at h1
        rcases Nat.lt_or_ge i listed.size with h' | h'
        · simp [h'] at h0 h1; rw [h0] at h1; cases h1
        · simp [Array.getElem?_eq_none h'] at h1
      have h2 := qOpM_put hoj (hfree j oj hoj hji hjun hnot) (fun cs b => hsel i oi cs b hi) (fun cs b => hsel j oj cs b hoj) hy h1
      have hfree' : ∀ k ok, ops[k]? = some ok → k ≠ i → (listed.setIfInBounds j true).getD k true = false →
          (∀ e ∈ ok.after, Region.binds md e = true → e.on ≠ i) → oi.apart ops ok = true := fun k ok hk hki hun hno => by
        refine hfree k ok hk hki ?_ hno
        by_cases hjk : j = k
        · subst hjk; exact hjun
        · rw [getD_set_ne true hjk] at hun; exact hun
      refine qOpM_mono (fun a' h3 => ih (listed.setIfInBounds j true) a' hfree' (ready_mono hr (Ne.symm hji)) h3.1 ?_) h2
      rw [Array.setIfInBounds_comm _ _ hji]
      exact h3.2
/-- the walk in the order of the text, number k first -/
def wpM (P : Program) (md : Region.Mode) (ops : Array Oper) (C : Array Bool → World → Prop) (nn : Nat → Bool) (x : Nat → Value) (T : Nat → Sem Next → Prop) (Q : Act → Prop) : List Oper → Nat → Act → Prop
  | [], _, a => Q a
  | o :: rest, k, a => ∃ v, (YieldsM P md ops C nn x k o v a ∧ (nn k = true → T k (execOp a.eval o))) ∧ wpM P md ops C nn x T Q rest (k + 1) (a.put o.dst v)
theorem wpAnyM_lex {Q : Array Bool → Act → Prop} (hs : Region.noSelect ops = true) : ∀ (l : List Oper) (k : Nat) (listed : Array Bool) (a : Act), (∀ j, l[j]? = ops[k + j]?) →
    Region.lexFrom md ops l.length k listed = true → wpM P md ops C nn x T (Q (setAll l.length k listed)) l k a → wpAnyM P md ops C nn x T Q l.length listed a
  | [], _, _, _, _, hB, h => ⟨by simpa [Region.lexFrom] using hB, h⟩
  | o :: l, k, listed, a, hl, hB, h => by
    have h0 : ops[k]? = some o := by simpa using (hl 0).symm
    simp only [List.length_cons, Region.lexFrom, Bool.and_eq_true] at hB
    obtain ⟨⟨hr, hf⟩, hB'⟩ := hB
    obtain ⟨v, hy, hK⟩ := h
    exact wpAnyM_first h0 (Region.noSelect_spec hs) l.length listed a (Region.free_spec h0 hf) (by simpa using hr) hy
      (wpAnyM_lex hs l (k + 1) _ _ (fun j => by have := hl (j + 1); simpa [Nat.add_assoc, Nat.add_comm 1 j] using this) hB' hK)
def uponN (P : Program) (Post : Value → World → Prop) : Result Next → Prop
  | .ok (.value u) w' => Post u w'
  | .ok (.enter f args) w' => Calls P f args w' (fun e w'' => ∃ u, e = .returned u ∧ Post u w'')
  | _ => False
theorem uponN_mono {P : Program} {Post Post' : Value → World → Prop} {r : Result Next} (h : ∀ v w, Post v w → Post' v w) (hr : uponN P Post r) : uponN P Post' r := by
  cases r with
  | ok n w' =>
    cases n <;> simp only [uponN] at hr ⊢
    case value u => exact h _ _ hr
    case enter f args => exact hr.mono fun e w'' ⟨u, he, hp⟩ => ⟨u, he, h _ _ hp⟩
  | halt y w' => simp only [uponN] at hr
/-- the theorem: G is what is not known ahead; val its values; Ag: two of G that do not differ in what has run; C g what holds of worlds where it is g -/
theorem wpAny_of_M {G : Type} {val : G → Nat → Value} {V : G → Prop} {Ag : Array Bool → G → G → Prop} {Cg : G → Array Bool → World → Prop} {Tg : Nat → Sem Next → Prop} {Q' : Exit → Act → World → Prop}
    (hrf : ∀ (l : Array Bool) g, Ag l g g) (htr : ∀ (l : Array Bool) g g' g'', Ag l g g' → Ag l g' g'' → Ag l g g'') (hmn : ∀ (l : Array Bool) i g g', Ag (l.setIfInBounds i true) g g' → l.getD i true = false → Ag l g g')
    (hvl : ∀ (l : Array Bool) i g g', nn i = true → l.getD i true = false → Ag (l.setIfInBounds i true) g g' → val g i = val g' i) (hag : ∀ (l : Array Bool) g g' w, Ag l g g' → Cg g l w → Cg g' l w)
    (hT : ∀ i s (l : Array Bool) w g, nn i = true → Tg i s → V g → i ∈ Region.ready md ops l → Cg g l w → uponN P (fun v w' => ∃ g', V g' ∧ Ag l g g' ∧ v = val g' i ∧ Cg g' (l.setIfInBounds i true) w') (s.run P w)) :
    ∀ (fuel : Nat) (l : Array Bool) (a : Act) (w : World) (g0 : G), V g0 → Cg g0 l w →
    (∀ g, V g → Ag l g0 g → wpAnyM P md ops (Cg g) nn (val g) Tg (fun l a => ∀ w', Cg g l w' → Q' .normal a w') fuel l a) → wpAny P md ops Q' fuel l a w
  | 0, l, a, w, g0, hg0, hC, h => ⟨(h g0 hg0 (hrf _ _)).1, (h g0 hg0 (hrf _ _)).2 w hC⟩
  | fuel + 1, l, a, w, g0, hg0, hC, h => by
    refine ⟨fun h0 => (h g0 hg0 (hrf _ _)).1 h0 w hC, fun i hi => ?_⟩
    have hun := (mem_ready.1 hi).1
    have h1 := (h g0 hg0 (hrf _ _)).2 i hi
    unfold qOpM at h1
    unfold wpOp
    split
    · rename_i ho; simp only [ho] at h1
    · rename_i o ho
      simp only [ho] at h1
      obtain ⟨v, ⟨h2, hT0⟩, h3⟩ := h1
      -- what comes behind a number of nn that has yielded val g' i
      have next : nn i = true → ∀ g', V g' → Ag l g0 g' → ∀ w', Cg g' (l.setIfInBounds i true) w' → wpAny P md ops Q' fuel (l.setIfInBounds i true) (a.put o.dst (val g' i)) w' := by
        intro hn g' hg' hA w' hC'
        refine wpAny_of_M hrf htr hmn hvl hag hT fuel _ _ w' g' hg' hC' fun g hg hA2 => ?_
        have h4 := (h g hg (htr _ _ _ _ hA (hmn _ _ _ _ hA2 hun))).2 i hi
        unfold qOpM at h4
        simp only [ho] at h4
        obtain ⟨v', ⟨h5, _⟩, h6⟩ := h4
        rcases h5 with ⟨_, e5, _⟩ | ⟨hne, _⟩
        · rw [hvl _ _ _ _ hn hun hA2, ← e5]; exact h6
        · rw [hn] at hne; cases hne
      rcases h2 with ⟨hn, hv, hw⟩ | ⟨hn, h2⟩
      · rw [if_pos hw]
        left
        have h5 := hT i _ l w g0 hn (hT0 hn) hg0 hi hC
        unfold Oper.wp
        generalize (execOp a.eval o).run P w = r at *
        cases r with
        | ok n w' =>
          cases n <;> simp only [uponN] at h5 <;> simp only [Oper.upon]
          case value u => obtain ⟨g', e1, e2, rfl, e4⟩ := h5; exact next hn g' e1 e2 _ e4
          case enter f args =>
            refine h5.mono fun e w'' ⟨u, he, g', e1, e2, e3, e4⟩ => ?_
            subst he; subst e3
            exact next hn g' e1 e2 _ e4
        | halt y w' => simp only [uponN] at h5
      · have hval : ∀ g, V g → Ag (l.setIfInBounds i true) g0 g → wpAnyM P md ops (Cg g) nn (val g) Tg (fun l a => ∀ w', Cg g l w' → Q' .normal a w') fuel (l.setIfInBounds i true) (a.put o.dst v) := by
          intro g hg hA2
          have hA := hmn _ _ _ _ hA2 hun
          have h4 := (h g hg hA).2 i hi
          unfold qOpM at h4
          simp only [ho] at h4
          obtain ⟨v', ⟨h5, _⟩, h6⟩ := h4
          rcases h5 with ⟨e, _⟩ | ⟨_, h5⟩
          · rw [hn] at e; cases e
          · have hvv : v = v' := by
              rcases h2 with ⟨hw, ha⟩ | ⟨hw, rfl, _⟩
              · rcases h5 with ⟨_, hb⟩ | ⟨hw', _⟩
                · exact uponV_val (ha l w hi hC) (hb l w hi (hag _ _ _ _ hA hC))
                · rw [hw] at hw'; cases hw'
              · rcases h5 with ⟨hw', _⟩ | ⟨_, e, _⟩
                · rw [hw] at hw'; cases hw'
                · exact e.symm
            rw [hvv]; exact h6
        rcases h2 with ⟨hw, ha⟩ | ⟨hw, rfl, hv⟩
        · rw [if_pos hw]
          left
          have h5 := ha l w hi hC
          unfold Oper.wp
          generalize (execOp a.eval o).run P w = r at *
          cases r with
          | ok n w' =>
            cases n <;> simp only [uponV] at h5 <;> simp only [Oper.upon]
            case value u => obtain ⟨e1, e2⟩ := h5; rw [e1]; exact wpAny_of_M hrf htr hmn hvl hag hT fuel _ _ w' g0 hg0 e2 hval
            case skip => obtain ⟨e1, e2⟩ := h5; rw [← e1]; exact wpAny_of_M hrf htr hmn hvl hag hT fuel _ _ w' g0 hg0 e2 hval
          | halt y w' => simp only [uponV] at h5
        · rw [if_neg (by rw [hw]; exact Bool.false_ne_true)]
          exact wpAny_of_M hrf htr hmn hvl hag hT fuel _ _ w g0 hg0 (hv l w hi hC) hval
end
section
variable {P : Program} {ops : Array Oper} {rest : List Oper} {o : Oper} {a : Act} {Q : Act → Prop} {F : (Nat → Bool) → World → Prop} {js : List Nat} {k : Nat} {nn : Nat → Bool} {md : Region.Mode} {x : Nat → Value} {T : Nat → Sem Next → Prop}
theorem wpM_nil (h : Q a) : wpM P md ops (CN F) nn x T Q [] k a := h
/-- an operation of nn -/
theorem wpM_new (hn : nn k = true) (hw : Region.wanted o (yielded ops a.tmps) = true) (hT : T k (execOp a.eval o)) (h : wpM P md ops (CN F) nn x T Q rest (k + 1) (a.put o.dst (x k))) : wpM P md ops (CN F) nn x T Q (o :: rest) k a :=
  ⟨x k, ⟨.inl ⟨hn, rfl, hw⟩, fun _ => hT⟩, h⟩
theorem wpM_read (hD : Dep F js) (hV : isV o.op = true) (hk : k ∉ js) (hn : nn k = false) (h : wpQuiet P ops (fun W => ∃ x : FXN F, W = x.W) (fun a' => wpM P md ops (CN F) nn x T Q rest (k + 1) a') [o] a) : wpM P md ops (CN F) nn x T Q (o :: rest) k a := by
  unfold wpQuiet at h
  split at h
  · rename_i hw
    obtain ⟨v, h1, h2⟩ := h
    refine ⟨v, ⟨.inr ⟨hn, .inl ⟨hw, fun listed W hl hW => ?_⟩⟩, fun e => by rw [hn] at e; cases e⟩, h2⟩
    have h3 := h1 W ⟨⟨W, _, hW⟩, rfl⟩
    unfold Oper.quietAt at h3
    cases hr : (execOp a.eval o).run P W with
    | ok n w' =>
      obtain ⟨u, rfl⟩ := isV_value hV hr
      rw [hr] at h3
      simp only [Oper.quietUpon] at h3
      simp only [uponV]
      obtain ⟨e1, e2⟩ := h3
      subst e1
      exact ⟨e2, hW.skip hD hk⟩
    | halt x w' => rw [hr] at h3; simp only [Oper.quietUpon] at h3
  · rename_i hw
    exact ⟨undef, ⟨.inr ⟨hn, .inr ⟨by simpa using hw, rfl, fun listed W hl hW => hW.skip hD hk⟩⟩, fun e => by rw [hn] at e; cases e⟩, h⟩
theorem wpM_store (hD : Dep F js) (hn : nn k = false) (hi : ops[k]? = some o) (ty : TypeId) (px py : Operand) (ho : o.op = .store ty px py) (hw : Region.wanted o (yielded ops a.tmps) = true) {p u : Value} (hx : a.eval px = p) (hy : a.eval py = u) (dep : List Nat) (hd : (dep.all fun j => o.after.any fun e => Region.binds md e && e.on == j) = true)
    (hs : ∀ f W, F f W → f k = false → (∀ j ∈ dep, f j = true) → ∃ W', (Instr.storeAt ty p u).run P W = .ok () W' ∧ F (fun i => i == k || f i) W') (h : wpM P md ops (CN F) nn x T Q rest (k + 1) (a.put o.dst undef)) : wpM P md ops (CN F) nn x T Q (o :: rest) k a := by
  refine ⟨undef, ⟨.inr ⟨hn, .inl ⟨hw, fun listed W hl hW => ?_⟩⟩, fun e => by rw [hn] at e; cases e⟩, h⟩
  have hk : listed.getD k false = false := by
    have h1 := (mem_ready.1 hl).1
    rcases Nat.lt_or_ge k listed.size with h' | h'
    · simp [h'] at h1 ⊢; exact h1
    · simp [Array.getElem?_eq_none h'] at h1 
  obtain ⟨W', h1, h2⟩ := hs _ W hW hk (fun j hj => ready_after hi (List.all_eq_true.1 hd j hj) hl)
  unfold execOp
  simp only [ho, hx, hy, Sem.run_bind, h1, Result.andThen_ok, Sem.run_pure, uponV, true_and]
  refine hD _ _ _ (fun j hj => ?_) h2
  by_cases hjk : j = k
  · subst hjk
    rw [(getD_on (mem_ready.1 hl).1).2]; simp
  · have hne : k ≠ j := Ne.symm hjk
    rw [getD_set_ne false hne]; simp [hjk]
end
/-- the region: ns are the operations whose values are not known ahead; dep what they wait for; T what they run -/
theorem wp_region_M {P : Program} {id : Nat} {Q : Exit → Act → World → Prop} {a : Act} {w : World} {l : List Oper} {G : Type} (val : G → Nat → Value) (Ag : (Nat → Bool) → G → G → Prop) (F : G → (Nat → Bool) → World → Prop) (js ns : List Nat) (dep : Nat → List Nat) (T : Nat → Sem Next → Prop) (g0 : G)
    (hD : ∀ g, Dep (F g) js) (hm : P.follows .mixedOrders = true) (hB : Region.lexB .any l.toArray = true)
    (hf : (js.all fun j => (setAll l.length 0 (Array.replicate l.length false)).getD j false) = true)
    (hnj : (ns.all fun k => js.contains k && match l.toArray[k]? with | some o => (dep k).all (fun j => o.after.any fun e => Region.binds .any e && e.on == j) | none => false) = true)
    (hAD : ∀ (φ ψ : Nat → Bool) g g', (∀ j ∈ js, φ j = ψ j) → Ag φ g g' → Ag ψ g g') (hrf : ∀ φ g, Ag φ g g) (htr : ∀ φ g g' g'', Ag φ g g' → Ag φ g' g'' → Ag φ g g'') (hmn : ∀ (φ : Nat → Bool) k g g', Ag (fun i => i == k || φ i) g g' → φ k = false → Ag φ g g')
    (hvl : ∀ (φ : Nat → Bool) k g g', k ∈ ns → φ k = false → Ag (fun i => i == k || φ i) g g' → val g k = val g' k) (hag : ∀ φ g g' W, Ag φ g g' → F g φ W → F g' φ W)
    (h0 : ∀ g, Ag (fun _ => false) g0 g) (hC : F g0 (fun _ => false) w.drew)
    (hT : ∀ k s (φ : Nat → Bool) W g, k ∈ ns → T k s → φ k = false → (∀ j ∈ dep k, φ j = true) → F g φ W → uponN P (fun v W' => ∃ g', Ag φ g g' ∧ v = val g' k ∧ F g' (fun i => i == k || φ i) W') (s.run P W))
    (h : ∀ g, wpM P .any l.toArray (CN (F g)) (fun i => ns.contains i) (val g) T (fun a' => ∀ w', F g (fun _ => true) w' → Q .normal a' w') l 0 a) : (Code.region id l.toArray true).wp P Q a w := by
  have hrep : ∀ j, (Array.replicate l.length false).getD j false = false := fun j => getD_replicate_false _ _
  simp only [Region.lexB, Bool.and_eq_true] at hB
  have un : ∀ {listed : Array Bool} {i : Nat}, listed.getD i true = false → listed.getD i false = false := fun {listed i} h1 => by
    rcases Nat.lt_or_ge i listed.size with h' | h'
    · simp [h'] at h1 ⊢; exact h1
    · simp [Array.getElem?_eq_none h'] at h1
  have set_on : ∀ {listed : Array Bool} {i : Nat}, listed.getD i true = false → ∀ j, (listed.setIfInBounds i true).getD j false = (j == i || listed.getD j false) := fun {listed i} h1 j => by
    by_cases hj : j = i
    · subst hj
      have := (getD_on h1).2
      simp [this]
    · rw [getD_set_ne false (Ne.symm hj)]; simp [hj]
  refine wp_region_any hm (wpAny_of_M (val := val) (V := fun _ => True) (Ag := fun listed => Ag (fun j => listed.getD j false)) (Cg := fun g => CN (F g)) (Tg := T) (nn := fun i => ns.contains i) ?_ ?_ ?_ ?_ ?_ ?_ _ _ _ _ g0 trivial ?_ ?_)
  · intro listed g; exact hrf _ g
  · intro listed g g' g'' h1 h2; exact htr _ _ _ _ h1 h2
  · intro listed i g g' h1 h2
    refine hmn _ i g g' (hAD _ _ _ _ (fun j _ => set_on h2 j) h1) (un h2)
  · intro listed i g g' hn h2 h1
    exact hvl _ i g g' (by simpa using hn) (un h2) (hAD _ _ _ _ (fun j _ => set_on h2 j) h1)
  · intro listed g g' W h1 h2; exact hag _ _ _ _ h1 h2
  · intro i s listed W g hn hs _ hr hW
    have hi : i ∈ ns := by simpa using hn
    have hun := (mem_ready.1 hr).1
    have hdp := List.all_eq_true.1 hnj i hi
    simp only [Bool.and_eq_true] at hdp
    have hdeps : ∀ j ∈ dep i, listed.getD j false = true := by
      obtain ⟨o, ho, _⟩ := (mem_ready.1 hr).2
      have h2 := hdp.2
      simp only [ho] at h2
      exact fun j hj => ready_after ho (List.all_eq_true.1 h2 j hj) hr
    have h3 := hT i s _ W g hi hs (un hun) hdeps hW
    refine uponN_mono (fun v W' ⟨g', e1, e2, e3⟩ => ⟨g', trivial, e1, e2, ?_⟩) h3
    exact hD g' _ _ _ (fun j _ => (set_on hun j).symm) e3
  · exact hD g0 _ _ _ (fun j _ => by have := hrep j; simpa using this.symm) hC
  · intro g _ _
    have e2 : ∀ w', CN (F g) (setAll l.length 0 (Array.replicate l.length false)) w' → F g (fun _ => true) w' := fun w' h' => hD g _ _ _ (fun j hj => by simpa using List.all_eq_true.1 hf j hj) h'
    have mono : ∀ (r : List Oper) (k : Nat) (a' : Act), wpM P .any l.toArray (CN (F g)) (fun i => ns.contains i) (val g) T (fun a' => ∀ w', F g (fun _ => true) w' → Q .normal a' w') r k a' → wpM P .any l.toArray (CN (F g)) (fun i => ns.contains i) (val g) T (fun a' => ∀ w', CN (F g) (setAll l.length 0 (Array.replicate l.length false)) w' → Q .normal a' w') r k a' := by
      intro r
      induction r with
      | nil => intro k a' h0 w' h'; exact h0 w' (e2 w' h')
      | cons o r ih => intro k a' h0; obtain ⟨v, h1, h2⟩ := h0; exact ⟨v, h1, ih _ _ h2⟩
    have := wpAnyM_lex (C := CN (F g)) (md := .any) (nn := fun i => ns.contains i) (x := val g) (T := T) (Q := fun listed a' => ∀ w', CN (F g) listed w' → Q .normal a' w') hB.1 l 0 (Array.replicate l.length false) a (by simp) (by simpa using hB.2) (mono _ _ _ (h g))
    simpa using this
end Go.Proofs.Ytbfmdbeeiicabaa
namespace Go.Proofs.Ytbfmdbeeiicabaa
open Go.RowKit L02 L13 L18 L20
theorem right_case {L : List Sl} {k : Nat} {s : Sl} {g r : Int} (hs : L[k]? = some s) (hr : r = rightErr L k g) : (s.used = false ∧ r = 28) ∨ (s.used = true ∧ (s.gen != g) = true ∧ r = 28) ∨ (s.used = true ∧ (s.gen != g) = false ∧ r = 0) := by
  have hk : k < L.length := (List.getElem?_eq_some_iff.1 hs).1
  have hgd : L.getD (k : Int).toNat .none = s := by simp [List.getD_eq_getElem?_getD, hs]
  have hrr : r = if s.used = true ∧ s.gen = g then 0 else 28 := by rw [hr, rightErr, if_pos (by omega), hgd]
  obtain ⟨gn, us, a⟩ := s
  dsimp only at *
  cases us
  · exact .inl ⟨rfl, by rw [hrr, if_neg (by simp)]⟩
  · by_cases hg : gn = g
    · exact .inr (.inr ⟨rfl, by rw [bne_eq_false_iff_eq]; exact hg, by rw [hrr, if_pos ⟨rfl, hg⟩]⟩)
    · exact .inr (.inl ⟨rfl, by rw [bne_iff_ne]; exact hg, by rw [hrr, if_neg (fun h => hg h.2)]⟩)
set_option maxRecDepth 100000 in
set_option maxHeartbeats 4000000 in
theorem find20_any (tv ov sv : Value) (m : Mo) (sl g : Int) (r : Int) (hr : r = rightErr m.slots sl g) (w : World) (h : Mod w tv ov sv m) :
    Calls Try.prog 144 #[.agg #[tv, ov, sv], .agg #[.int .i64 sl, .int .i64 g]] w fun e w' => e = .returned (.int .i64 r) ∧ Below w.heap.size w w' := by
  have B : Below w.heap.size w w := Below.refl _ _
  have ls := h.s.len
  obtain ⟨NS, hNS⟩ : ∃ N, N = m.slots.length := ⟨_, rfl⟩
  rw [← hNS] at ls
  by_cases hin : 0 ≤ sl ∧ sl < NS
  · obtain ⟨h0, h1⟩ := hin
    obtain ⟨k, rfl⟩ := Int.eq_ofNat_of_zero_le h0
    obtain ⟨b, o, s, ia, m0, m1, m2, hs⟩ := h.s.at_ (P := Try.prog) Try.underlying64 size_slot (k := k) (by omega)
    have hcase := right_case hs.out hr
    have n1 : ¬ (k : Int) < 0 := by omega
    have n2 : ¬ (NS : Int) ≤ (k : Int) := by omega
    have n3 : ¬ NS ≤ k := by omega
    obtain ⟨gn, us, a⟩ := s
    dsimp only at m0 m1 m2 hcase
    clear hr h hs hNS h0 h1
    rcases hcase with ⟨rfl, rfl⟩ | ⟨rfl, hne, rfl⟩ | ⟨rfl, hne, rfl⟩
    all_goals
      go_enter Try.func144, Try.ntmps144
      go_upto_region 1 with (fail)
      refine wp_gen (fun Wv => Bx Wv (w.heap.size) (79) (#[tv, ov, sv]) ∧ Bx Wv (w.heap.size + 1) (103) (#[.int .i64 k, .int .i64 g]) ∧ Below w.heap.size w Wv) ⟨(((Bx.at_ (by simp)).alloc _)), ((Bx.at_ (by simp))), (((Below.refl _ w).alloc (by simp <;> omega) _).alloc (by simp <;> omega) _)⟩ ?_
      rintro wa1 ⟨g1, g2, b⟩
      replace m0 := cell_later b m0; replace m1 := cell_later b m1; replace m2 := cell_later b m2; replace B := B.trans (b.mono B.size); clear b
      have c_g1 := g1.cell; have f_g1 := g1.free; have a_g1 := fun o => (g1.alloc o).cell; have d_g1 := fun o o2 => ((g1.alloc o).alloc o2).cell; have e_g1 := fun o => (g1.alloc o).free
      have c_g2 := g2.cell; have f_g2 := g2.free; have a_g2 := fun o => (g2.alloc o).cell; have d_g2 := fun o o2 => ((g2.alloc o).alloc o2).cell; have e_g2 := fun o => (g2.alloc o).free
      go_wp2
      go_ret
      refine ⟨rfl, ?_⟩
      (repeat (first | refine Below.setCell ?_ (by first | exact Nat.le_refl _ | (simp <;> omega)) _ | refine Below.alloc ?_ (by first | exact B.size | (have := B.size; simp <;> omega)) _)); exact B
  · have hr0 : r = 2 := by rw [hr, rightErr, if_neg (by omega)]
    clear hr h hNS
    subst hr0
    have hcase : sl < 0 ∨ ¬ sl < 0 ∧ (NS : Int) ≤ sl := by omega
    clear hin
    rcases hcase with h1 | ⟨h1, h2⟩
    all_goals
      go_enter Try.func144, Try.ntmps144
      go_upto_region 1 with (fail)
      refine wp_gen (fun Wv => Bx Wv (w.heap.size) (79) (#[tv, ov, sv]) ∧ Bx Wv (w.heap.size + 1) (103) (#[.int .i64 sl, .int .i64 g]) ∧ Below w.heap.size w Wv) ⟨(((Bx.at_ (by simp)).alloc _)), ((Bx.at_ (by simp))), (((Below.refl _ w).alloc (by simp <;> omega) _).alloc (by simp <;> omega) _)⟩ ?_
      rintro wa1 ⟨g1, g2, b⟩
      replace B := B.trans (b.mono B.size); clear b
      have c_g1 := g1.cell; have f_g1 := g1.free; have a_g1 := fun o => (g1.alloc o).cell; have d_g1 := fun o o2 => ((g1.alloc o).alloc o2).cell; have e_g1 := fun o => (g1.alloc o).free
      have c_g2 := g2.cell; have f_g2 := g2.free; have a_g2 := fun o => (g2.alloc o).cell; have d_g2 := fun o o2 => ((g2.alloc o).alloc o2).cell; have e_g2 := fun o => (g2.alloc o).free
      go_wp2
      go_ret
      exact ⟨rfl, B⟩
theorem enter_copied (x : Value) (W : World) : (callFunc 121 (#[] ++ #[x] ++ #[])).run Try.prog W = .ok (.enter 121 #[x]) W := by
  simp [go_sem]
structure GMod where
  t : Value
  o : Value
  s : Value
  W1 : World
def GMod.val (g : GMod) : Value := .agg #[g.t, g.o, g.s]
def wsC (w : World) (p : Nat) (g : GMod) : Nat → World
  | 0 => w.drew
  | 1 => g.W1
  | _ => ((g.W1.setCell ⟨p, 0, none⟩ g.t).setCell ⟨p, 1, none⟩ g.o).setCell ⟨p, 2, none⟩ g.s
set_option maxRecDepth 100000 in
set_option maxHeartbeats 4000000 in
theorem open20_no (tv ov sv : Value) (m : Mo) (sl g : Int) (r : Int) (hr : r = asked m sl g) (h0 : r ≠ 0) (w : World) (h : Mod w tv ov sv m) :
    Calls Try.prog 117 #[.agg #[tv, ov, sv], .agg #[.int .i64 sl, .int .i64 g]] w fun e w' => e = .returned (.tuple #[.agg #[.slice none 0 0, .slice none 0 0, .slice none 0 0], .int .i64 0, .int .i64 r]) ∧ Below w.heap.size w w' := by
  have B : Below w.heap.size w w := Below.refl _ _
  obtain ⟨c, hc⟩ : ∃ c, c = chk m := ⟨_, rfl⟩
  have CT := Lib.hid (fun w h => Check20_any tv ov sv m c hc w h)
  have H := Lib.hid h
  by_cases hc0 : c = 0
  · have hr1 : r = rightErr m.slots sl g := by rw [hr, asked_eq (by rw [← hc]; exact hc0)]
    have FT := Lib.hid (fun w h => find20_any tv ov sv m sl g r hr1 w h)
    have hne : (r != 0) = true := by rw [bne_iff_ne]; exact h0
    subst hc0
    clear hr hr1 h hc h0
    go_enter Try.func117, Try.ntmps117
    go_upto_region 1 with (fail)
    refine wp_gen (fun Wv => Bx Wv (w.heap.size) (79) (#[tv, ov, sv]) ∧ Bx Wv (w.heap.size + 1) (103) (#[.int .i64 sl, .int .i64 g]) ∧ Bx Wv (w.heap.size + 1 + 1) (79) (#[.slice none 0 0, .slice none 0 0, .slice none 0 0]) ∧ Below w.heap.size w Wv) ⟨((((Bx.at_ (by simp)).alloc _).alloc _)), (((Bx.at_ (by simp)).alloc _)), ((Bx.at_ (by simp))), ((((Below.refl _ w).alloc (by simp <;> omega) _).alloc (by simp <;> omega) _).alloc (by simp <;> omega) _)⟩ ?_
    rintro wa1 ⟨g1, g2, g3, b⟩
    replace B := B.trans (b.mono B.size); clear b
    have c_g1 := g1.cell; have f_g1 := g1.free; have a_g1 := fun o => (g1.alloc o).cell; have d_g1 := fun o o2 => ((g1.alloc o).alloc o2).cell; have e_g1 := fun o => (g1.alloc o).free
    have c_g2 := g2.cell; have f_g2 := g2.free; have a_g2 := fun o => (g2.alloc o).cell; have d_g2 := fun o o2 => ((g2.alloc o).alloc o2).cell; have e_g2 := fun o => (g2.alloc o).free
    have c_g3 := g3.cell; have f_g3 := g3.free; have a_g3 := fun o => (g3.alloc o).cell; have d_g3 := fun o o2 => ((g3.alloc o).alloc o2).cell; have e_g3 := fun o => (g3.alloc o).free
    go_wp2_with fail
    refine (CT.out _ (H.out.below B)).mono ?_
    rintro e wa2 ⟨rfl, b⟩
    try clear c_g1 f_g1 a_g1 d_g1 e_g1
    replace g1 := g1.below b; have c_g1 := g1.cell; have f_g1 := g1.free; have a_g1 := fun o => (g1.alloc o).cell; have d_g1 := fun o o2 => ((g1.alloc o).alloc o2).cell; have e_g1 := fun o => (g1.alloc o).free; try clear c_g2 f_g2 a_g2 d_g2 e_g2
    replace g2 := g2.below b; have c_g2 := g2.cell; have f_g2 := g2.free; have a_g2 := fun o => (g2.alloc o).cell; have d_g2 := fun o o2 => ((g2.alloc o).alloc o2).cell; have e_g2 := fun o => (g2.alloc o).free; try clear c_g3 f_g3 a_g3 d_g3 e_g3
    replace g3 := g3.below b; have c_g3 := g3.cell; have f_g3 := g3.free; have a_g3 := fun o => (g3.alloc o).cell; have d_g3 := fun o o2 => ((g3.alloc o).alloc o2).cell; have e_g3 := fun o => (g3.alloc o).free; replace B := B.trans (b.mono B.size); clear b
    go_wp2_with fail
    refine (FT.out _ (H.out.below B)).mono ?_
    rintro e wa3 ⟨rfl, b⟩
    try clear c_g1 f_g1 a_g1 d_g1 e_g1
    replace g1 := g1.below b; have c_g1 := g1.cell; have f_g1 := g1.free; have a_g1 := fun o => (g1.alloc o).cell; have d_g1 := fun o o2 => ((g1.alloc o).alloc o2).cell; have e_g1 := fun o => (g1.alloc o).free; try clear c_g2 f_g2 a_g2 d_g2 e_g2
    replace g2 := g2.below b; have c_g2 := g2.cell; have f_g2 := g2.free; have a_g2 := fun o => (g2.alloc o).cell; have d_g2 := fun o o2 => ((g2.alloc o).alloc o2).cell; have e_g2 := fun o => (g2.alloc o).free; try clear c_g3 f_g3 a_g3 d_g3 e_g3
    replace g3 := g3.below b; have c_g3 := g3.cell; have f_g3 := g3.free; have a_g3 := fun o => (g3.alloc o).cell; have d_g3 := fun o o2 => ((g3.alloc o).alloc o2).cell; have e_g3 := fun o => (g3.alloc o).free; replace B := B.trans (b.mono B.size); clear b
    go_wp2
    refine bodyPost_ret (v := .tuple #[.agg #[.slice none 0 0, .slice none 0 0, .slice none 0 0], .int .i64 0, .int .i64 r]) (by simp [results, Try.results117, go_sem, c_g1, f_g1, a_g1, e_g1, c_g2, f_g2, a_g2, e_g2, c_g3, f_g3, a_g3, e_g3]) rfl ?_
    refine ⟨rfl, ?_⟩
    (repeat (first | refine Below.setCell ?_ (by first | exact Nat.le_refl _ | (simp <;> omega)) _ | refine Below.alloc ?_ (by first | exact B.size | (have := B.size; simp <;> omega)) _)); exact B
  · have hr1 : r = c := by rw [hr, asked_no (by rw [← hc]; exact hc0), hc]
    have hne : (c != 0) = true := by rw [bne_iff_ne]; exact hc0
    subst hr1
    clear hr h hc h0 hc0
    go_enter Try.func117, Try.ntmps117
    go_upto_region 1 with (fail)
    refine wp_gen (fun Wv => Bx Wv (w.heap.size) (79) (#[tv, ov, sv]) ∧ Bx Wv (w.heap.size + 1) (103) (#[.int .i64 sl, .int .i64 g]) ∧ Bx Wv (w.heap.size + 1 + 1) (79) (#[.slice none 0 0, .slice none 0 0, .slice none 0 0]) ∧ Below w.heap.size w Wv) ⟨((((Bx.at_ (by simp)).alloc _).alloc _)), (((Bx.at_ (by simp)).alloc _)), ((Bx.at_ (by simp))), ((((Below.refl _ w).alloc (by simp <;> omega) _).alloc (by simp <;> omega) _).alloc (by simp <;> omega) _)⟩ ?_
    rintro wa1 ⟨g1, g2, g3, b⟩
    replace B := B.trans (b.mono B.size); clear b
    have c_g1 := g1.cell; have f_g1 := g1.free; have a_g1 := fun o => (g1.alloc o).cell; have d_g1 := fun o o2 => ((g1.alloc o).alloc o2).cell; have e_g1 := fun o => (g1.alloc o).free
    have c_g2 := g2.cell; have f_g2 := g2.free; have a_g2 := fun o => (g2.alloc o).cell; have d_g2 := fun o o2 => ((g2.alloc o).alloc o2).cell; have e_g2 := fun o => (g2.alloc o).free
    have c_g3 := g3.cell; have f_g3 := g3.free; have a_g3 := fun o => (g3.alloc o).cell; have d_g3 := fun o o2 => ((g3.alloc o).alloc o2).cell; have e_g3 := fun o => (g3.alloc o).free
    go_wp2_with fail
    refine (CT.out _ (H.out.below B)).mono ?_
    rintro e wa2 ⟨rfl, b⟩
    try clear c_g1 f_g1 a_g1 d_g1 e_g1
    replace g1 := g1.below b; have c_g1 := g1.cell; have f_g1 := g1.free; have a_g1 := fun o => (g1.alloc o).cell; have d_g1 := fun o o2 => ((g1.alloc o).alloc o2).cell; have e_g1 := fun o => (g1.alloc o).free; try clear c_g2 f_g2 a_g2 d_g2 e_g2
    replace g2 := g2.below b; have c_g2 := g2.cell; have f_g2 := g2.free; have a_g2 := fun o => (g2.alloc o).cell; have d_g2 := fun o o2 => ((g2.alloc o).alloc o2).cell; have e_g2 := fun o => (g2.alloc o).free; try clear c_g3 f_g3 a_g3 d_g3 e_g3
    replace g3 := g3.below b; have c_g3 := g3.cell; have f_g3 := g3.free; have a_g3 := fun o => (g3.alloc o).cell; have d_g3 := fun o o2 => ((g3.alloc o).alloc o2).cell; have e_g3 := fun o => (g3.alloc o).free; replace B := B.trans (b.mono B.size); clear b
    go_wp2
    refine bodyPost_ret (v := .tuple #[.agg #[.slice none 0 0, .slice none 0 0, .slice none 0 0], .int .i64 0, .int .i64 r]) (by simp [results, Try.results117, go_sem, c_g1, f_g1, a_g1, e_g1, c_g2, f_g2, a_g2, e_g2, c_g3, f_g3, a_g3, e_g3]) rfl ?_
    refine ⟨rfl, ?_⟩
    (repeat (first | refine Below.setCell ?_ (by first | exact Nat.le_refl _ | (simp <;> omega)) _ | refine Below.alloc ?_ (by first | exact B.size | (have := B.size; simp <;> omega)) _)); exact B
theorem OwnM.forms {w : World} {B E : Nat} {tv ov sv : Value} {m : Mo} (h : OwnM w B E tv ov sv m) : (∃ A n c, tv = .slice A n c) ∧ (∃ A n c, ov = .slice A n c) ∧ ∃ A n c, sv = .slice A n c := by
  obtain ⟨⟨_, _, z2, _⟩, ⟨_, _, y2, _⟩, s⟩ := h
  obtain ⟨A, c, e⟩ := own_form' z2; obtain ⟨A', c', e'⟩ := own_form' y2; obtain ⟨A'', c'', e''⟩ := own_form' s
  exact ⟨⟨A, _, c, e⟩, ⟨A', _, c', e'⟩, ⟨A'', _, c'', e''⟩⟩
set_option maxRecDepth 100000 in
set_option maxHeartbeats 4000000 in
theorem open20_ok (tv ov sv : Value) (m : Mo) (sl g : Int) (n : Nat) (h0 : asked m sl g = 0) (hn : own m sl = n) (w : World) (h : Mod w tv ov sv m) :
    Calls Try.prog 117 #[.agg #[tv, ov, sv], .agg #[.int .i64 sl, .int .i64 g]] w fun e w' => ∃ tv' ov' sv', e = .returned (.tuple #[.agg #[tv', ov', sv'], .int .i64 n, .int .i64 0]) ∧ OwnM w' w.heap.size 68 tv' ov' sv' m ∧ Below w.heap.size w w' := by
  have B : Below w.heap.size w w := Below.refl _ _
  obtain ⟨c0, hr0, k, s, n', o, t, hk, hk16, hs, hu, hg, hso, hat, hown, _⟩ := asked_ok h0
  obtain rfl : n' = n := by rw [← hown, hn]
  subst hk
  have CT := Lib.hid (fun w h => Check20_any tv ov sv m 0 c0.symm w h)
  have FT := Lib.hid (fun w h => find20_any tv ov sv m k g 0 hr0.symm w h)
  have CP := Lib.hid (fun w h => copied_any tv ov sv m (small_chk c0) w h)
  have hkl : k < m.slots.length := (List.getElem?_eq_some_iff.1 hs).1
  obtain ⟨b, q, s', ia, m0, m1, m2, hs'⟩ := h.s.at_ (P := Try.prog) Try.underlying64 size_slot hkl
  obtain rfl : s' = s := by have := hs'.out; rw [hs] at this; injection this with this; exact this.symm
  rw [hat] at m2
  have H := Lib.hid h
  clear h0 hr0 hs hs' hu hg hso hat hown hn c0 h m0 m1 hkl
  go_enter Try.func117, Try.ntmps117
  go_upto_region 1 with (fail)
  refine wp_gen (fun Wv => Bx Wv (w.heap.size) (79) (#[tv, ov, sv]) ∧ Bx Wv (w.heap.size + 1) (103) (#[.int .i64 k, .int .i64 g]) ∧ Bx Wv (w.heap.size + 1 + 1) (79) (#[.slice none 0 0, .slice none 0 0, .slice none 0 0]) ∧ Below w.heap.size w Wv) ⟨((((Bx.at_ (by simp)).alloc _).alloc _)), (((Bx.at_ (by simp)).alloc _)), ((Bx.at_ (by simp))), ((((Below.refl _ w).alloc (by simp <;> omega) _).alloc (by simp <;> omega) _).alloc (by simp <;> omega) _)⟩ ?_
  rintro wa1 ⟨g1, g2, g3, b⟩
  replace B := B.trans (b.mono B.size); clear b
  have c_g1 := g1.cell; have f_g1 := g1.free; have a_g1 := fun o => (g1.alloc o).cell; have d_g1 := fun o o2 => ((g1.alloc o).alloc o2).cell; have e_g1 := fun o => (g1.alloc o).free
  have c_g2 := g2.cell; have f_g2 := g2.free; have a_g2 := fun o => (g2.alloc o).cell; have d_g2 := fun o o2 => ((g2.alloc o).alloc o2).cell; have e_g2 := fun o => (g2.alloc o).free
  have c_g3 := g3.cell; have f_g3 := g3.free; have a_g3 := fun o => (g3.alloc o).cell; have d_g3 := fun o o2 => ((g3.alloc o).alloc o2).cell; have e_g3 := fun o => (g3.alloc o).free
  go_wp2_with fail
  refine (CT.out _ (H.out.below B)).mono ?_
  rintro e wa2 ⟨rfl, b⟩
  try clear c_g1 f_g1 a_g1 d_g1 e_g1
  replace g1 := g1.below b; have c_g1 := g1.cell; have f_g1 := g1.free; have a_g1 := fun o => (g1.alloc o).cell; have d_g1 := fun o o2 => ((g1.alloc o).alloc o2).cell; have e_g1 := fun o => (g1.alloc o).free; try clear c_g2 f_g2 a_g2 d_g2 e_g2
  replace g2 := g2.below b; have c_g2 := g2.cell; have f_g2 := g2.free; have a_g2 := fun o => (g2.alloc o).cell; have d_g2 := fun o o2 => ((g2.alloc o).alloc o2).cell; have e_g2 := fun o => (g2.alloc o).free; try clear c_g3 f_g3 a_g3 d_g3 e_g3
  replace g3 := g3.below b; have c_g3 := g3.cell; have f_g3 := g3.free; have a_g3 := fun o => (g3.alloc o).cell; have d_g3 := fun o o2 => ((g3.alloc o).alloc o2).cell; have e_g3 := fun o => (g3.alloc o).free; replace B := B.trans (b.mono B.size); clear b
  go_wp2_with fail
  refine (FT.out _ (H.out.below B)).mono ?_
  rintro e wa3 ⟨rfl, b⟩
  try clear c_g1 f_g1 a_g1 d_g1 e_g1
  replace g1 := g1.below b; have c_g1 := g1.cell; have f_g1 := g1.free; have a_g1 := fun o => (g1.alloc o).cell; have d_g1 := fun o o2 => ((g1.alloc o).alloc o2).cell; have e_g1 := fun o => (g1.alloc o).free; try clear c_g2 f_g2 a_g2 d_g2 e_g2
  replace g2 := g2.below b; have c_g2 := g2.cell; have f_g2 := g2.free; have a_g2 := fun o => (g2.alloc o).cell; have d_g2 := fun o o2 => ((g2.alloc o).alloc o2).cell; have e_g2 := fun o => (g2.alloc o).free; try clear c_g3 f_g3 a_g3 d_g3 e_g3
  replace g3 := g3.below b; have c_g3 := g3.cell; have f_g3 := g3.free; have a_g3 := fun o => (g3.alloc o).cell; have d_g3 := fun o o2 => ((g3.alloc o).alloc o2).cell; have e_g3 := fun o => (g3.alloc o).free; replace B := B.trans (b.mono B.size); clear b
  go_upto_region 7 with (fail)
  have HG := Lib.hid (And.intro g1 (And.intro g2 (And.intro g3 B)))
  have hB := B.size
  clear c_g1 c_g2 f_g1 f_g2 a_g1 a_g2 d_g1 d_g2 e_g1 e_g2 c_g3 f_g3 a_g3 d_g3 e_g3
  refine wp_region_G (val := GMod.val) (V := fun g => OwnM g.W1 wa3.heap.size 68 g.t g.o g.s m ∧ Below wa3.heap.size wa3 g.W1)
    (F := fun g => FL [1, 9] (wsC wa3 (w.heap.size + 1 + 1) g) 1 2) [1, 1, 9] 1 ⟨undef, undef, undef, wa3⟩ 121 #[.agg #[tv, ov, sv]] (fun g => FL.dep) (by kernel_rfl) (by kernel_rfl) (by kernel_rfl) (fun g g' φ W hφ hF => FL.agree (Ws := wsC wa3 (w.heap.size + 1 + 1) g) (Ws' := wsC wa3 (w.heap.size + 1 + 1) g') (k0 := 1) rfl rfl hφ hF) FL.start (by decide) ?_ ?_
  · intro φ W hφ hF
    obtain ⟨rfl, _⟩ := FL.step (i := 0) rfl (by decide) hF hφ (by intro p hp; omega) (by omega)
    refine (CP.out wa3.drew (H.out.below B.drew)).mono ?_
    rintro e W1 ⟨t', o', s', rfl, om, b1⟩
    have b1' : Below wa3.heap.size wa3 W1 := (Below.refl _ wa3).drew.trans b1
    have hF' := FL.agree (Ws := wsC wa3 (w.heap.size + 1 + 1) ⟨undef, undef, undef, wa3⟩) (Ws' := wsC wa3 (w.heap.size + 1 + 1) ⟨t', o', s', W1⟩) (k0 := 1) rfl rfl hφ hF
    exact ⟨⟨t', o', s', W1⟩, ⟨om, b1'⟩, rfl, (FL.step (i := 0) rfl (by decide) hF' hφ (by intro p hp; omega) (by omega)).2⟩
  · rintro ⟨t', o', s', W1⟩ ⟨om, b1⟩
    dsimp only at om b1 ⊢
    obtain ⟨⟨tA, tn, tc, rfl⟩, ⟨oA, on, oc, rfl⟩, ⟨sA, sn, sc, rfl⟩⟩ := om.forms
    have r3 := g3.below b1
    have AL : ∀ d, d ≤ 2 → Below w.heap.size w (wsC wa3 (w.heap.size + 1 + 1) ⟨.slice tA tn tc, .slice oA on oc, .slice sA sn sc, W1⟩ d) ∧ Bx (wsC wa3 (w.heap.size + 1 + 1) ⟨.slice tA tn tc, .slice oA on oc, .slice sA sn sc, W1⟩ d) w.heap.size 79 #[tv, ov, sv] ∧ Bx (wsC wa3 (w.heap.size + 1 + 1) ⟨.slice tA tn tc, .slice oA on oc, .slice sA sn sc, W1⟩ d) (w.heap.size + 1) 103 #[.int .i64 k, .int .i64 g] := by
      intro d hd
      rcases d with _ | _ | d
      · exact ⟨B.drew, g1, g2⟩
      · exact ⟨B.trans (b1.mono hB), g1.below b1, g2.below b1⟩
      · refine ⟨?_, ?_, ?_⟩
        · exact (((B.trans (b1.mono hB)).setCell (p := ⟨w.heap.size + 1 + 1, 0, none⟩) (by simp; omega) _).setCell (p := ⟨w.heap.size + 1 + 1, 1, none⟩) (by simp; omega) _).setCell (p := ⟨w.heap.size + 1 + 1, 2, none⟩) (by simp; omega) _
        · exact (((g1.below b1).far (p := ⟨w.heap.size + 1 + 1, 0, none⟩) (by show _ ≠ w.heap.size + 1 + 1; omega) _).far (p := ⟨w.heap.size + 1 + 1, 1, none⟩) (by show _ ≠ w.heap.size + 1 + 1; omega) _).far (p := ⟨w.heap.size + 1 + 1, 2, none⟩) (by show _ ≠ w.heap.size + 1 + 1; omega) _
        · exact (((g2.below b1).far (p := ⟨w.heap.size + 1 + 1, 0, none⟩) (by show _ ≠ w.heap.size + 1 + 1; omega) _).far (p := ⟨w.heap.size + 1 + 1, 1, none⟩) (by show _ ≠ w.heap.size + 1 + 1; omega) _).far (p := ⟨w.heap.size + 1 + 1, 2, none⟩) (by show _ ≠ w.heap.size + 1 + 1; omega) _
    have AA := Lib.hid (fun x : FXN (FL [1, 9] (wsC wa3 (w.heap.size + 1 + 1) ⟨.slice tA tn tc, .slice oA on oc, .slice sA sn sc, W1⟩) 1 2) => FL.all (ks := [1, 9]) (Ws := wsC wa3 (w.heap.size + 1 + 1) ⟨.slice tA tn tc, .slice oA on oc, .slice sA sn sc, W1⟩) (p := fun W => Below w.heap.size w W ∧ Bx W w.heap.size 79 #[tv, ov, sv] ∧ Bx W (w.heap.size + 1) 103 #[.int .i64 k, .int .i64 g]) AL x)
    have ca := fun x : FXN (FL [1, 9] (wsC wa3 (w.heap.size + 1 + 1) ⟨.slice tA tn tc, .slice oA on oc, .slice sA sn sc, W1⟩) 1 2) => (AA.out x).2.1.cell
    have cb := fun x : FXN (FL [1, 9] (wsC wa3 (w.heap.size + 1 + 1) ⟨.slice tA tn tc, .slice oA on oc, .slice sA sn sc, W1⟩) 1 2) => (AA.out x).2.2.cell
    have cc := fun x : FXN (FL [1, 9] (wsC wa3 (w.heap.size + 1 + 1) ⟨.slice tA tn tc, .slice oA on oc, .slice sA sn sc, W1⟩) 1 2) => cell_later (AA.out x).1 m2
    haveI : Nonempty (FXN (FL [1, 9] (wsC wa3 (w.heap.size + 1 + 1) ⟨.slice tA tn tc, .slice oA on oc, .slice sA sn sc, W1⟩) 1 2)) := ⟨⟨_, _, FL.start⟩⟩
    refine wpG_read FL.dep rfl (by decide) (by decide) ?_; go_big_quiet_step (fail); refine wpQuiet_nil ?_
    refine wpG_call #[.agg #[tv, ov, sv]] rfl (by simp [Act.eval]) (enter_copied _) ?_
    simp only [Act.put, List.setIfInBounds_toArray, List.set_cons_zero, List.set_cons_succ]
    iterate 7 (refine wpG_read FL.dep rfl (by decide) (by decide) ?_; go_big_quiet_step (fail); refine wpQuiet_nil ?_)
    have c3 := r3.cell; have f3 := r3.free
    refine wpG_store FL.dep (by decide) rfl 79 (.tmp 4) (.tmp 23) rfl (by rfl) (p := .pointer (some ⟨w.heap.size + 1 + 1, 0, none⟩)) (u := .agg #[.slice tA tn tc, .slice oA on oc, .slice sA sn sc]) (by rfl) (by rfl) [1] (by kernel_rfl) (fun f W hF h0 h1 => ?_) ?_
    · obtain ⟨rfl, h2⟩ := FL.step (i := 1) rfl (by decide) hF h0 (FL.prev (p := 0) (q := 1) rfl (h1 1 (by simp))) (by omega)
      refine ⟨_, ?_, h2⟩
      simp [go_sem, wsC, c3, f3]
    simp only [Act.put, List.setIfInBounds_toArray, List.set_cons_zero, List.set_cons_succ]
    iterate 2 (refine wpG_read FL.dep rfl (by decide) (by decide) ?_; go_big_quiet_step (fail); refine wpQuiet_nil ?_)
    refine wpG_nil ?_
    intro w' hw'
    obtain rfl := FL.done hw'
    have HM := Lib.hid (OwnM.set3 (a := .slice tA tn tc) (b := .slice oA on oc) (c := .slice sA sn sc) (om.mono hB) r3)
    have BB := Lib.hid (AL 2 (Nat.le_refl _)).1
    have g3' : Bx ((((W1.setCell ⟨w.heap.size + 1 + 1, 0, none⟩ (.slice tA tn tc)).setCell ⟨w.heap.size + 1 + 1, 1, none⟩ (.slice oA on oc)).setCell ⟨w.heap.size + 1 + 1, 2, none⟩ (.slice sA sn sc))) (w.heap.size + 1 + 1) 79 #[.slice tA tn tc, .slice oA on oc, .slice sA sn sc] := by
      have := ((r3.set (i := 0) (.slice tA tn tc)).set (i := 1) (.slice oA on oc)).set (i := 2) (.slice sA sn sc)
      simpa using this
    have c3' := g3'.cell
    clear this ca cb cc c3 f3 AL AA om b1 g1 g2 g3 B r3 hw'
    show _
    generalize hW : (((W1.setCell ⟨w.heap.size + 1 + 1, 0, none⟩ (.slice tA tn tc)).setCell ⟨w.heap.size + 1 + 1, 1, none⟩ (.slice oA on oc)).setCell ⟨w.heap.size + 1 + 1, 2, none⟩ (.slice sA sn sc)) = W4 at c3' HM
    have hw4 : wsC wa3 (w.heap.size + 1 + 1) ⟨.slice tA tn tc, .slice oA on oc, .slice sA sn sc, W1⟩ [1, 9].length = W4 := hW
    rw [hw4]
    have BB2 := BB.out
    rw [show wsC wa3 (w.heap.size + 1 + 1) ⟨.slice tA tn tc, .slice oA on oc, .slice sA sn sc, W1⟩ 2 = W4 from hW] at BB2
    have BB3 := Lib.hid BB2
    clear hW hw4 BB BB2 g3'
    go_wp2
    refine bodyPost_ret (v := .tuple #[.agg #[.slice tA tn tc, .slice oA on oc, .slice sA sn sc], .int .i64 n', .int .i64 0]) (by simp [results, Try.results117, go_sem, c3']) rfl ?_
    exact ⟨_, _, _, rfl, HM.out, BB3.out⟩
end Go.Proofs.Ytbfmdbeeiicabaa
namespace Go.Proofs.Ytbfmdbeeiicabaa.L18
open L02
theorem size_of {l : List UInt64} (h : openErr l = 0) : SizeOk l.length := by
  unfold openErr at h
  split at h
  · assumption
  · omega
theorem allR_of {l : List UInt64} (h : openErr l = 0) : AllR l := by
  unfold openErr at h
  split at h
  · split at h
    · assumption
    · omega
  · omega
theorem slots_len' {l : List UInt64} (h : openErr l = 0) : (slots l).length = 16 := by
  have := (size_of h).1
  simp [slots, ws]; omega
end Go.Proofs.Ytbfmdbeeiicabaa.L18
namespace Go.Proofs.Ytbfmdbeeiicabaa
open Go.RowKit L02 L13 L18 L20
theorem tabL_set (S : List Sl) (k : Nat) (s : Sl) (hk : k < S.length) : (((tabL S).set (k * 3) (.int .i64 s.gen)).set (k * 3 + 1) (.bool s.used)).set (k * 3 + 2) (.int .i64 s.at_) = tabL (S.set k s) := by
  apply List.ext_getElem?
  intro i
  by_cases hi : i < S.length * 3
  · obtain ⟨q, r, hr, rfl⟩ : ∃ q r, r < 3 ∧ i = q * 3 + r := ⟨i / 3, i % 3, Nat.mod_lt _ (by omega), by omega⟩
    have hq : q < S.length := by omega
    by_cases hqk : q = k
    · subst hqk
      have h1 := tabL_get (S.set q s) q s (by simp [hq]) r hr
      rw [h1]
      have hl : (tabL S).length = S.length * 3 := tabL_len S
      have : r = 0 ∨ r = 1 ∨ r = 2 := by omega
      rcases this with rfl | rfl | rfl
      · rw [List.getElem?_set_ne (by omega), List.getElem?_set_ne (by omega), Nat.add_zero, List.getElem?_set_self (by omega)]; rfl
      · rw [List.getElem?_set_ne (by omega), List.getElem?_set_self (by simp; omega)]; rfl
      · rw [List.getElem?_set_self (by simp; omega)]; rfl
    · have hs : S[q]? = some S[q] := List.getElem?_eq_getElem hq
      have h1 := tabL_get (S.set k s) q S[q] (by rw [List.getElem?_set_ne (Ne.symm hqk)]; exact hs) r hr
      have h2 := tabL_get S q S[q] hs r hr
      rw [h1, List.getElem?_set_ne (by omega), List.getElem?_set_ne (by omega), List.getElem?_set_ne (by omega), h2]
  · rw [List.getElem?_eq_none (by simp [tabL_len]; omega), List.getElem?_eq_none (by simp [tabL_len]; omega)]
/-- one slot is stored -/
theorem OwnS.put3 {w : World} {B E g n c k : Nat} {S : List Sl} (h : OwnS w B E (.slice (some ⟨g, 0, none⟩) n c) S) (hk : k < S.length) (s : Sl) :
    OwnS (((w.setCell ⟨g, k * 3, none⟩ (.int .i64 s.gen)).setCell ⟨g, k * 3 + 1, none⟩ (.bool s.used)).setCell ⟨g, k * 3 + 2, none⟩ (.int .i64 s.at_)) B E (.slice (some ⟨g, 0, none⟩) n c) (S.set k s) ∧
      w.grownBy (((w.setCell ⟨g, k * 3, none⟩ (.int .i64 s.gen)).setCell ⟨g, k * 3 + 1, none⟩ (.bool s.used)).setCell ⟨g, k * 3 + 2, none⟩ (.int .i64 s.at_)) (some g) ∧ B ≤ g ∧ g < w.heap.size ∧ ∀ j, w.frozen? ⟨g, j, none⟩ = false := by
  have hn : n = S.length := by
    obtain ⟨g', cap, cur, hv, _⟩ := own_form h (by omega)
    injection hv
  subst hn
  have h1 := World.ownsRow.stored h (k * 3) (.int .i64 s.gen)
  have h2 := World.ownsRow.stored h1.1 (k * 3 + 1) (.bool s.used)
  have h3 := World.ownsRow.stored h2.1 (k * 3 + 2) (.int .i64 s.at_)
  have hl := h.lt g rfl
  refine ⟨?_, ⟨rfl, rfl, rfl, ?_, fun q hq hne => ?_⟩, hl.1, hl.2, fun j => h.frozenAt j⟩
  · unfold OwnS
    rw [← tabL_set S k s hk, List.length_set]
    exact h3.1
  · simp [World.setCell]
  · exact (h3.2.block q (by simpa [World.setCell] using hq) hne).trans ((h2.2.block q (by simpa [World.setCell] using hq) hne).trans (h1.2.block q hq hne))
theorem OwnS.form {w : World} {B E : Nat} {v : Value} {S : List Sl} (h : OwnS w B E v S) (hn : 0 < S.length) : ∃ g n c, v = .slice (some ⟨g, 0, none⟩) n c ∧ n = S.length := by
  obtain ⟨g, cap, cur, hv, _⟩ := own_form h hn
  exact ⟨g, _, cap, hv, rfl⟩
theorem OwnS.cells {w : World} {B E g n c k : Nat} {S : List Sl} {s : Sl} (h : OwnS w B E (.slice (some ⟨g, 0, none⟩) n c) S) (hs : S[k]? = some s) :
    (∀ W, (Instr.indexAt 64 (.slice (some ⟨g, 0, none⟩) n c) (.int .i64 (k : Int))).run Try.prog W = .ok (.pointer (some ⟨g, k * 3, none⟩)) W) ∧ w.cell? ⟨g, k * 3, none⟩ = some (.int .i64 s.gen) ∧ w.cell? ⟨g, k * 3 + 1, none⟩ = some (.bool s.used) ∧ w.cell? ⟨g, k * 3 + 2, none⟩ = some (.int .i64 s.at_) := by
  have hk : k < S.length := (List.getElem?_eq_some_iff.1 hs).1
  have t0 := Rd.cell (OwnS.rd h) (tabL_get S k s hs 0 (by omega))
  have t1 := Rd.cell (OwnS.rd h) (tabL_get S k s hs 1 (by omega))
  have t2 := Rd.cell (OwnS.rd h) (tabL_get S k s hs 2 (by omega))
  refine ⟨fun W => ?_, ?_, ?_, ?_⟩
  · have := Rd.ixN (P := Try.prog) (OwnS.rd h) Try.underlying64 size_slot hk W
    simpa [cellAt] using this
  · simpa [cellAt] using t0
  · simpa [cellAt] using t1
  · simpa [cellAt] using t2
/-- a model's own slots changed, all else kept -/
theorem OwnM.slots {w W : World} {B g n c : Nat} {tv ov : Value} {m : Mo} {S : List Sl} (h : OwnM w B 68 tv ov (.slice (some ⟨g, 0, none⟩) n c) m) (hg : w.grownBy W (some g)) (hS : OwnS W B 68 (.slice (some ⟨g, 0, none⟩) n c) S) :
    OwnM W B 68 tv ov (.slice (some ⟨g, 0, none⟩) n c) ⟨m.types, m.objs, S⟩ := by
  refine ⟨OwnT.kept h.t h.s hg (by decide) (by decide), ?_, hS⟩
  obtain ⟨vs, a1, a2, a4, a5⟩ := h.o
  exact ⟨vs, a1, World.ownsRow.kept a2 hg (own_unlike a2 h.s (by decide)), fun i x l h5 h6 => World.ownsRow.kept (a4 i x l h5 h6) hg (own_unlike (a4 i x l h5 h6) h.s (by decide)), a5⟩
/-- all old blocks but one are as they were -/
def Keep (w w' : World) (row : Option Nat) : Prop := w.heap.size ≤ w'.heap.size ∧ ∀ k, k < w.heap.size → some k ≠ row → w'.heap[k]? = w.heap[k]?
theorem Keep.of_below {w w' : World} {row : Option Nat} (h : Below w.heap.size w w') : Keep w w' row := ⟨h.size, fun k hk _ => h.block k hk⟩
theorem Keep.grown {w w' w'' : World} {row : Option Nat} (h : Keep w w' row) (hg : w'.grownBy w'' row) : Keep w w'' row := ⟨Nat.le_trans h.1 hg.size, fun k hk hr => (hg.block k (Nat.lt_of_lt_of_le hk h.1) hr).trans (h.2 k hk hr)⟩
theorem Keep.setCell {w w' : World} {row : Option Nat} (h : Keep w w' row) {p : Addr} (hp : w.heap.size ≤ p.block) (u : Value) : Keep w (w'.setCell p u) row :=
  ⟨by simpa [World.setCell] using h.1, fun k hk hr => (Below.heap_setCell w' p u k (by omega)).trans (h.2 k hk hr)⟩
theorem Bx.keep {w w' : World} {g : Nat} {t : TypeId} {cs : Array Value} {row : Option Nat} (h : Bx w g t cs) (hk : Keep w w' row) (hne : row = none ∨ row ≠ some g) : Bx w' g t cs := by
  have hl := h.lt
  unfold Bx at *
  rw [hk.2 g hl (by rcases hne with rfl | h; · simp
                    · exact fun e => h e.symm)]
  exact h
end Go.Proofs.Ytbfmdbeeiicabaa
namespace Go.Proofs.Ytbfmdbeeiicabaa
open Go.RowKit L02 L13 L18 L20
/-- the number of a slot is stored -/
theorem OwnS.put1 {w : World} {B E g n c k : Nat} {S : List Sl} {s : Sl} (h : OwnS w B E (.slice (some ⟨g, 0, none⟩) n c) S) (hs : S[k]? = some s) (a : Int) :
    OwnS (w.setCell ⟨g, k * 3 + 2, none⟩ (.int .i64 a)) B E (.slice (some ⟨g, 0, none⟩) n c) (S.set k ⟨s.gen, s.used, a⟩) ∧
      w.grownBy (w.setCell ⟨g, k * 3 + 2, none⟩ (.int .i64 a)) (some g) ∧ B ≤ g ∧ g < w.heap.size ∧ ∀ j, w.frozen? ⟨g, j, none⟩ = false := by
  have hk : k < S.length := (List.getElem?_eq_some_iff.1 hs).1
  have hn : n = S.length := by
    obtain ⟨g', cap, cur, hv, _⟩ := own_form h (by omega)
    injection hv
  subst hn
  have h3 := World.ownsRow.stored h (k * 3 + 2) (.int .i64 a)
  have hl := h.lt g rfl
  have hsame : ∀ i : Nat, i < 3 → ∀ u, (slC s)[i]? = some u → (tabL S).set (k * 3 + i) u = tabL S := by
    intro i hi u hu
    have t0 := tabL_get S k s hs i hi
    rw [hu] at t0
    apply List.ext_getElem?
    intro j
    by_cases hj : j = k * 3 + i
    · subst hj
      rw [List.getElem?_set_self (List.getElem?_eq_some_iff.1 t0).1, t0]
    · rw [List.getElem?_set_ne (Ne.symm hj)]
  have h0 := hsame 0 (by omega) (.int .i64 s.gen) rfl
  have h1 := hsame 1 (by omega) (.bool s.used) rfl
  rw [Nat.add_zero] at h0
  refine ⟨?_, h3.2, hl.1, hl.2, fun j => h.frozenAt j⟩
  unfold OwnS
  rw [← tabL_set S k ⟨s.gen, s.used, a⟩ hk, List.length_set]
  show World.ownsRow _ _ _ _ _ _ ((((tabL S).set (k * 3) (.int .i64 s.gen)).set (k * 3 + 1) (.bool s.used)).set (k * 3 + 2) (.int .i64 a))
  rw [h0, h1]
  exact h3.1
theorem own_ne_bx {w : World} {B e sz n n' p g c : Nat} {xs : List Value} {t : TypeId} {cs : Array Value} (h : w.ownsRow B e sz (.slice (some ⟨g, 0, none⟩) n c) n' xs) (hg : Bx w p t cs) (hne : e ≠ t) : g ≠ p := by
  rintro rfl
  rcases own_not_bx h hg hne with h | h
  · cases h
  · exact h rfl
end Go.Proofs.Ytbfmdbeeiicabaa
namespace Go.Proofs.Ytbfmdbeeiicabaa
open Go.RowKit Go.Maps L02 L13 L18 L20
/-- .. that has just n entries, those whose keys K tells -/
def MapN (P : Program) (k e : TypeId) (z0 : Lit) (W : World) (g n : Nat) (f : Int → Lit) (K : Int → Bool) : Prop :=
  ∃ D : DataW Unit, W.ownsMap P k (plainElem P e) g n D ∧ (∀ a, D.atKey (.int .i64 a) (.lit z0) = .lit (f a)) ∧ size D = n ∧ ∀ a, has D (.int .i64 a) = K a
section
variable {P : Program} {k e : TypeId} {z0 : Lit} {W : World} {g n : Nat} {f : Int → Lit} {K : Int → Bool}
theorem MapN.mapL (h : MapN P k e z0 W g n f K) : MapL P k e z0 W g n f := by obtain ⟨D, h1, h2, _⟩ := h; exact ⟨D, h1, h2⟩
theorem MapN.made (W : World) : MapN P k e z0 (W.alloc (.map #[] 0)) W.heap.size 0 (fun _ => z0) (fun _ => false) :=
  ⟨.map [], World.ownsMap_made W P k _, fun a => rfl, rfl, fun a => rfl⟩
theorem MapN.kept {W' : World} {row : Option Nat} (h : MapN P k e z0 W g n f K) (hg : W.grownBy W' row) (hne : some g ≠ row) : MapN P k e z0 W' g n f K := by
  obtain ⟨D, h1, h2⟩ := h; exact ⟨D, h1.kept hg hne, h2⟩
theorem MapN.below {W' : World} (h : MapN P k e z0 W g n f K) (hb : Below W.heap.size W W') : MapN P k e z0 W' g n f K := by
  obtain ⟨D, ⟨es, clock, hh, F, hs, hD⟩, h2⟩ := h
  exact ⟨D, ⟨es, clock, (hb.block g (Array.getElem?_eq_some_iff.1 hh).1).trans hh, F, hs, hD⟩, h2⟩
theorem MapL.block (h : MapL P k e z0 W g n f) : ∃ es clock, W.heap[g]? = some (.map es clock) := by
  obtain ⟨D, ⟨es, clock, hh, _⟩, _⟩ := h; exact ⟨es, clock, hh⟩
theorem MapN.len {t : TypeId} (h : MapN P k e z0 W g n f K) (ht : P.underlying t = some (.map k e)) : ∀ ty, (Builtin.len_ #[t] ty #[.map (some g)]).run P W = .ok (.int .i64 (n : Int)) W := by
  obtain ⟨D, h1, _, h3, _⟩ := h
  intro ty
  rw [h1.len ht ty, h3]
theorem MapN.put {t : TypeId} (h : MapN P k e z0 W g n f K) (hk : P.underlying k = some (.int .i64)) (ht : P.underlying t = some (.map k e)) (hn : n < maxLen) {a : Int} (ha : i64Ok a) (hK : K a = false) {v : Value} {l : Lit} (hv : plainElem (H := Unit) P e v = some (.lit l, [])) :
    ∃ W', (Instr.mapUpdate t (.map (some g)) (.int .i64 a) v).run P W = .ok () W' ∧ MapN P k e z0 W' g (n + 1) (fun b => if b = a then l else f b) (fun b => decide (b = a) || K b) ∧ W.grownBy W' (some g) := by
  obtain ⟨D, h1, h2, h3, h4⟩ := h
  obtain ⟨W', r1, r2, r3⟩ := h1.update (int_keyed hk) ht hn (keyOf_int_mk hk (lit_wf ha)) hv
  refine ⟨W', r1, ⟨_, r2, fun b => ?_, ?_, fun b => ?_⟩, r3⟩
  · by_cases hb : b = a
    · subst hb
      show _ = DataW.lit (if b = b then l else f b)
      rw [if_pos rfl]
      exact atKey_put_same (h1.isMap) ((int_keyed hk).key (keyOf_int_mk hk (lit_wf ha))) _ _
    · show _ = DataW.lit (if b = a then l else f b)
      rw [if_neg hb, atKey_put_other (by intro e; injection e with _ e; exact hb e), h2]
  · rw [size_put (h1.tidy (int_keyed hk)), h4, hK, h3]; rfl
  · by_cases hb : b = a
    · subst hb
      rw [has_put_same h1.isMap ((int_keyed hk).key (keyOf_int_mk hk (lit_wf ha)))]; simp
    · rw [has_put_other (by intro e; injection e with _ e; exact hb e), h4]; simp [hb]
/-- a store at the operation, for the walk -/
theorem wpList_mapPutN {ops : Array Oper} {rest : List Oper} {o : Oper} {a : Act} {Q : Exit → Act → World → Prop} (hg : o.guard = none) {m x v : Operand} {t : TypeId} (hop : o.op = Op.mapUpdate t m x v) (hk : P.underlying k = some (.int .i64)) (ht : P.underlying t = some (.map k e))
    (hm : a.eval m = .map (some g)) {key : Int} {val : Value} {l : Lit} (hx : a.eval x = .int .i64 key) (hv : a.eval v = val) (h : MapN P k e z0 W g n f K) (hn : n < maxLen) (hkey : i64Ok key) (hK : K key = false) (hval : plainElem (H := Unit) P e val = some (.lit l, []))
    (hC : ∀ W', MapN P k e z0 W' g (n + 1) (fun b => if b = key then l else f b) (fun b => decide (b = key) || K b) → W.grownBy W' (some g) → wpList P ops Q rest (a.put o.dst undef) W') : wpList P ops Q (o :: rest) a W := by
  refine wpList_plain hg fun K' hK' => ?_
  obtain ⟨W', hrun, r1, r2⟩ := h.put hk ht hn hkey hK hval
  unfold Oper.wp
  simp [execOp, hop, hm, hx, hv, hrun, Result.andThen]
  exact hK' _ _ (hC W' r1 r2)
/-- a row does not lie in a map's block -/
theorem own_ne_map {B e' sz n' : Nat} {v : Value} {xs : List Value} {es : Array MapEntry} {clock : Nat} (h : W.ownsRow B e' sz v n' xs) (hm : W.heap[g]? = some (.map es clock)) : v.ownBlock = none ∨ v.ownBlock ≠ some g := by
  rcases h.2 with ⟨rfl, _⟩ | ⟨g', cap, cur, rfl, _, hg', _⟩
  · exact .inl rfl
  · refine .inr ?_
    intro he
    simp [Value.ownBlock] at he
    subst he
    rw [hg'] at hm
    injection hm with hm
    cases hm
theorem Bx.ne_map {p : Nat} {t : TypeId} {cs : Array Value} {es : Array MapEntry} {clock : Nat} (h : Bx W p t cs) (hm : W.heap[g]? = some (.map es clock)) : g ≠ p := by
  rintro rfl
  unfold Bx at h
  rw [h] at hm
  injection hm with hm
  cases hm
theorem row_keptM {W' : World} {B e' sz n' : Nat} {v : Value} {xs : List Value} {es : Array MapEntry} {clock : Nat} (h : W.ownsRow B e' sz v n' xs) (hm : W.heap[g]? = some (.map es clock)) (hg : W.grownBy W' (some g)) : W'.ownsRow B e' sz v n' xs :=
  World.ownsRow.kept h hg (own_ne_map h hm)
theorem OwnT.keptM {W' : World} {B : Nat} {v : Value} {L : List (List UInt8)} {es : Array MapEntry} {clock : Nat} (h : OwnT W B v L) (hm : W.heap[g]? = some (.map es clock)) (hg : W.grownBy W' (some g)) : OwnT W' B v L := by
  obtain ⟨vs, a1, a2, a4⟩ := h
  exact ⟨vs, a1, row_keptM a2 hm hg, fun i x l h5 h6 => row_keptM (a4 i x l h5 h6) hm hg⟩
theorem Bx.keptM {W' : World} {p : Nat} {t : TypeId} {cs : Array Value} {es : Array MapEntry} {clock : Nat} (h : Bx W p t cs) (hm : W.heap[g]? = some (.map es clock)) (hg : W.grownBy W' (some g)) : Bx W' p t cs :=
  h.grown hg (.inr (fun e => h.ne_map hm (by injection e)))
end
end Go.Proofs.Ytbfmdbeeiicabaa
namespace Go.Proofs.Ytbfmdbeeiicabaa.L14
open L05
structure Hb where
  at_ : Int
  size : Int
  kind : Int
  ty : Int
  mark : Bool
  next : UInt64
deriving DecidableEq
def Hb.none : Hb := ⟨0, 0, 0, 0, false, 0⟩
def ObjB (b : Hb) : Prop := b.kind = 1 ∧ (0 ≤ b.ty ∧ b.ty < 8) ∧ b.size ≤ 10
instance (b : Hb) : Decidable (ObjB b) := inferInstanceAs (Decidable (_ ∧ _ ∧ _))
def FreeB (b : Hb) : Prop := b.kind = 2 ∧ b.ty = 0 ∧ b.mark = false ∧ b.size ≤ 1920
instance (b : Hb) : Decidable (FreeB b) := inferInstanceAs (Decidable (_ ∧ _ ∧ _ ∧ _))
def BkOk (b : Hb) : Prop := (2 ≤ b.size ∧ b.size % 2 = 0) ∧ (ObjB b ∨ FreeB b)
instance (b : Hb) : Decidable (BkOk b) := inferInstanceAs (Decidable (_ ∧ _))
def hErr (b : Hb) : Int := if BkOk b then 0 else 8
def mk1 (m : Bool) : Nat := if m then 1 else 0
/-- the lower half of a first word -/
def lowN (b : Hb) : Nat := b.kind.toNat + mk1 b.mark * 256 + b.ty.toNat * 512 + b.size.toNat * 65536
def partN (x : UInt64) : Nat := (sum [x]).toNat % 4294967296
def wordN (b : Hb) : Nat := lowN b + partN (UInt64.ofNat (lowN b)) * 4294967296
def word (b : Hb) : UInt64 := if BkOk b then UInt64.ofNat (wordN b) else 0
/-- what the lower half of a word tells -/
def told (x : UInt64) : Hb := ⟨0, (x.toNat / 65536 % 65536 : Nat), (x.toNat % 256 : Nat), (x.toNat / 512 % 128 : Nat), decide (x.toNat / 256 % 2 = 1), 0⟩
def HdOk (x : UInt64) : Prop := BkOk (told x) ∧ word (told x) = x
instance (x : UInt64) : Decidable (HdOk x) := inferInstanceAs (Decidable (_ ∧ _))
def split (x : UInt64) : Hb := if HdOk x then told x else .none
def splE (x : UInt64) : Int := if HdOk x then 0 else 50
theorem hErr_ok {b : Hb} (h : BkOk b) : hErr b = 0 := if_pos h
theorem hErr_no {b : Hb} (h : ¬ BkOk b) : hErr b = 8 := if_neg h
theorem mk1_le (m : Bool) : mk1 m ≤ 1 := by cases m <;> decide
theorem part_lt (x : UInt64) : partN x < 4294967296 := Nat.mod_lt _ (by decide)
/-- the bounds of a valid block -/
theorem BkOk.bounds {b : Hb} (h : BkOk b) : 2 ≤ b.size ∧ b.size % 2 = 0 ∧ b.size ≤ 1920 ∧ (b.kind = 1 ∨ b.kind = 2) ∧ 0 ≤ b.ty ∧ b.ty < 8 := by
  obtain ⟨⟨h1, h2⟩, h3 | h3⟩ := h
  · obtain ⟨a, c, d⟩ := h3; exact ⟨h1, h2, by omega, .inl a, c.1, c.2⟩
  · obtain ⟨a, c, d, e⟩ := h3; exact ⟨h1, h2, by omega, .inr a, by omega, by omega⟩
theorem lowN_lt {b : Hb} (h : BkOk b) : lowN b < 4294967296 := by
  have := h.bounds
  have := mk1_le b.mark
  unfold lowN; omega
theorem wordN_lt {b : Hb} (h : BkOk b) : wordN b < 18446744073709551616 := by
  have h1 := lowN_lt h
  have h2 := part_lt (UInt64.ofNat (lowN b))
  unfold wordN; omega
theorem word_nat {b : Hb} (h : BkOk b) : (word b).toNat = wordN b := by
  rw [word, if_pos h, UInt64.toNat_ofNat', Nat.mod_eq_of_lt (wordN_lt h)]
/-- the first word of a valid block tells it, but for its address and its second word -/
theorem told_word {b : Hb} (h : BkOk b) : told (word b) = ⟨0, b.size, b.kind, b.ty, b.mark, 0⟩ := by
  obtain ⟨h1, h2, h3, h4, h5, h6⟩ := h.bounds
  have hm := mk1_le b.mark
  have hn := word_nat h
  have hl : lowN b < 4294967296 := lowN_lt h
  have e1 : (word b).toNat % 4294967296 = lowN b := by rw [hn, wordN]; omega
  unfold lowN at e1
  have e2 : ((word b).toNat / 65536 % 65536 : Nat) = b.size.toNat := by omega
  have e3 : ((word b).toNat % 256 : Nat) = b.kind.toNat := by omega
  have e4 : ((word b).toNat / 512 % 128 : Nat) = b.ty.toNat := by omega
  have e5 : (word b).toNat / 256 % 2 = mk1 b.mark := by omega
  rw [told, e2, e3, e4, e5]
  obtain ⟨at_, size, kind, ty, mark, next⟩ := b
  dsimp only at *
  have a1 : (size.toNat : Int) = size := by omega
  have a2 : (kind.toNat : Int) = kind := by omega
  have a3 : (ty.toNat : Int) = ty := by omega
  rw [a1, a2, a3]
  cases mark <;> rfl
theorem ok_bare {b : Hb} {a : Int} {n : UInt64} : BkOk (⟨a, b.size, b.kind, b.ty, b.mark, n⟩ : Hb) ↔ BkOk b := Iff.rfl
theorem word_bare {b : Hb} {a : Int} {n : UInt64} : word (⟨a, b.size, b.kind, b.ty, b.mark, n⟩ : Hb) = word b := rfl
theorem hd_word {b : Hb} (h : BkOk b) : HdOk (word b) := by
  have e := told_word h
  refine ⟨by rw [e]; exact ok_bare.2 h, ?_⟩
  rw [e]; exact word_bare (b := b)
theorem split_word {b : Hb} (h : BkOk b) : split (word b) = ⟨0, b.size, b.kind, b.ty, b.mark, 0⟩ := by rw [split, if_pos (hd_word h), told_word h]
theorem split_ok {x : UInt64} (h : HdOk x) : BkOk (split x) := by rw [split, if_pos h]; exact h.1
theorem split_told {x : UInt64} (h : HdOk x) : split x = told x := if_pos h
end Go.Proofs.Ytbfmdbeeiicabaa.L14
namespace Go.Proofs.Ytbfmdbeeiicabaa
open Go.RowKit L01 L02 L05 L14
set_option maxHeartbeats 1000000 in
theorem HCheck_any (b : Hb) (r : Int) (hr : r = hErr b) (w : World) : Calls Try.prog 22 #[.agg #[.int .i64 b.at_, .int .i64 b.size, .int .i64 b.kind, .int .i64 b.ty, .bool b.mark, .int .u64 b.next.toNat]] w fun e w' => e = .returned (.int .i64 r) ∧ Below w.heap.size w w' := by
  have HB := Lib.hid hr; clear hr
  obtain ⟨at_, size, kind, ty, mark, next⟩ := b
  dsimp only at *
  cases mark
  all_goals
    go_enter Try.func22, Try.ntmps22
    go_wp2
    all_goals
      go_ret
      refine ⟨ret_int ?_, (Below.refl _ _).alloc (Nat.le_refl _) _⟩
      rw [HB.out]
      try simp only [Bool.not_eq_true', Bool.not_eq_false', decide_eq_true_eq, decide_eq_false_iff_not, beq_eq_false_iff_ne, beq_iff_eq, bne_iff_ne, bne_eq_false_iff_eq, ne_eq] at *
      first
      | exact (hErr_ok (by simp [BkOk, ObjB, FreeB]; try omega)).symm
      | exact (hErr_no (by simp [BkOk, ObjB, FreeB]; try omega)).symm
theorem mask32_any (w : World) : Calls Try.prog 149 #[.int .i64 0, .int .i64 32] w fun e w' => e = .returned (.int .u64 4294967295) ∧ w = w' := by
  go_enter Try.func149, Try.ntmps149
  go_wp2
  go_ret
  exact ⟨rfl, rfl⟩
theorem Get32_any (x : UInt64) (r : Nat) (hr : r = x.toNat % 4294967296) (w : World) : Calls Try.prog 133 #[.int .u64 x.toNat, .int .i64 0, .int .i64 32] w fun e w' => e = .returned (.tuple #[.int .u64 (r : Int), .int .i64 0]) ∧ w = w' := by
  have hxl := toNat_lt x
  have e1 := and_int (a := (x.toNat : Int)) 32 (by omega) (by omega) 4294967295 (by decide) (by omega)
  rw [show ((2 ^ 32 : Nat) : Int) = 4294967296 from rfl] at e1
  have e2 : (x.toNat : Int) % 4294967296 = (r : Int) := by rw [hr]; omega
  have e3 := e1.trans e2
  clear hr e1 e2
  go_enter Try.func133, Try.ntmps133
  go_wp2_with fail
  refine (mask32_any _).mono ?_
  rintro e w' ⟨rfl, rfl⟩
  go_wp2
  go_ret2
  exact ⟨rfl, rfl⟩
theorem Low32_any (v : Value) (l : List UInt64) (r : Nat) (hr : r = (sum l).toNat % 4294967296) (hl : l.length ≤ 2048) (w : World) (h : Words w v l) :
    Calls Try.prog 95 #[v, .int .i64 32] w fun e w' => e = .returned (.tuple #[.int .u64 (r : Int), .int .i64 0]) ∧ Below w.heap.size w w' := by
  obtain ⟨S, hS⟩ : ∃ S, S = sum l := ⟨_, rfl⟩
  rw [← hS] at hr
  have GT := Lib.hid (fun w => Get32_any S r hr w)
  have HO : Hid (∀ w, Words w v l → Calls Try.prog 132 #[v] w fun e w' => e = .returned (.tuple #[.int .u64 S.toNat, .int .i64 0]) ∧ Below w.heap.size w w') := by
    rw [hS]; exact Lib.hid (fun w h => Of_any v l w h hl)
  have B : Below w.heap.size w w := Below.refl _ _
  have H := Lib.hid h; clear h hr hS
  go_enter Try.func95, Try.ntmps95
  go_wp2_with fail
  refine (HO.out _ (H.out.below B)).mono ?_
  rintro e wa1 ⟨rfl, b⟩
  replace B := B.trans (b.mono B.size); clear b
  go_wp2_with fail
  refine (GT.out _).mono ?_
  rintro e w' ⟨rfl, rfl⟩
  go_wp2
  go_ret2
  exact ⟨rfl, B⟩
theorem lit_one {w : World} {e n : Nat} (x : UInt64) (hn : w.heap.size = n) : Words (w.alloc (.cells #[.int .u64 x.toNat] e)) (.slice (some ⟨n, 0, none⟩) 1 1) [x] := by
  subst hn; exact lit_words [x] rfl rfl (by simp)
set_option maxRecDepth 100000 in
theorem sealed_any (x : UInt64) (r : Nat) (hx : x.toNat < 4294967296) (hr : r = x.toNat + partN x * 4294967296) (w : World) :
    Calls Try.prog 54 #[.int .u64 x.toNat] w fun e w' => e = .returned (.tuple #[.int .u64 (r : Int), .int .i64 0]) ∧ Below w.heap.size w w' := by
  have B : Below w.heap.size w w := Below.refl _ _
  obtain ⟨p, hp⟩ : ∃ p, p = partN x := ⟨_, rfl⟩
  have hpl : p < 4294967296 := by rw [hp]; exact part_lt x
  have hp2 : (sum [x]).toNat % 4294967296 = p := hp.symm
  have LO := Lib.hid (fun v w h => Low32_any v [x] p hp2.symm (by simp) w h)
  have e1 := or_int (a := (x.toNat : Int)) (b := (p : Int) * 4294967296) 32 p (by omega) (by simp; omega) (by omega) (by omega) (by omega)
  have e2 : IntKind.u64.wrap ((p : Int) * 4294967296) = (p : Int) * 4294967296 := by rw [wrap_u64]; omega
  rw [← hp] at hr
  have HR := Lib.hid hr; clear hp hr hp2
  go_enter Try.func54, Try.ntmps54
  go_wp2_with fail
  refine (LO.out _ _ (lit_one x rfl)).mono ?_
  rintro e w' ⟨rfl, b⟩
  replace B := (B.alloc B.size _).trans (b.mono (by simp))
  go_wp2
  go_ret2
  exact ⟨by rw [HR.out]; congr 3, B⟩
set_option maxHeartbeats 1000000 in
theorem of_any (b : Hb) (hb : BkOk b) (lw : Nat) (hlw : lw = lowN b) (w : World) :
    Calls Try.prog 53 #[.agg #[.int .i64 b.at_, .int .i64 b.size, .int .i64 b.kind, .int .i64 b.ty, .bool b.mark, .int .u64 b.next.toNat]] w fun e w' => e = .returned (.agg #[.int .u64 (lw : Int), .int .u64 b.kind, .int .u64 b.ty, .int .u64 b.size, .int .u64 (mk1 b.mark : Nat)]) ∧ Below w.heap.size w w' := by
  have B : Below w.heap.size w w := Below.refl _ _
  obtain ⟨h1, h2, h3, h4, h5, h6⟩ := hb.bounds
  obtain ⟨at_, size, kind, ty, mark, next⟩ := b
  dsimp only at *
  obtain ⟨S, rfl⟩ := Int.eq_ofNat_of_zero_le (show 0 ≤ size by omega)
  obtain ⟨K, rfl⟩ := Int.eq_ofNat_of_zero_le (show 0 ≤ kind by omega)
  obtain ⟨T, rfl⟩ := Int.eq_ofNat_of_zero_le h5
  have w1 : IntKind.u64.wrap (K : Int) = K := by rw [wrap_u64]; omega
  have w2 : IntKind.u64.wrap (T : Int) = T := by rw [wrap_u64]; omega
  have w3 : IntKind.u64.wrap (S : Int) = S := by rw [wrap_u64]; omega
  have w4 : IntKind.u64.wrap ((T : Int) * 512) = (T : Int) * 512 := by rw [wrap_u64]; omega
  have w5 : IntKind.u64.wrap ((S : Int) * 65536) = (S : Int) * 65536 := by rw [wrap_u64]; omega
  have HL := Lib.hid hlw; clear hlw hb
  cases mark
  · have o1 := or_int (a := (K : Int)) (b := (T : Int) * 512) 9 T (by omega) (by simp; omega) (by omega) (by omega) (by omega)
    have o2 := or_int (a := (K : Int) + (T : Int) * 512) (b := (S : Int) * 65536) 16 S (by omega) (by simp; omega) (by omega) (by omega) (by omega)
    have o0 := or_int (a := (K : Int)) (b := 0) 9 0 (by omega) (by simp; omega) (by omega) (by omega) (by omega)
    rw [Int.add_zero] at o0
    go_enter Try.func53, Try.ntmps53
    go_wp2
    refine bodyPost_ret (v := .agg #[.int .u64 (lw : Int), .int .u64 K, .int .u64 T, .int .u64 S, .int .u64 0]) (by simp [results, Try.results53, go_sem, HL.out, lowN, mk1]) rfl ⟨rfl, ?_⟩
    (repeat (first | refine Below.setCell ?_ (by first | exact Nat.le_refl _ | (simp <;> omega)) _ | refine Below.alloc ?_ (by first | exact B.size | (have := B.size; simp <;> omega)) _)); exact B
  · have o0 := or_int (a := (K : Int)) (b := 256) 8 1 (by omega) (by simp; omega) (by omega) (by omega) (by omega)
    have o1 := or_int (a := (K : Int) + 256) (b := (T : Int) * 512) 9 T (by omega) (by simp; omega) (by omega) (by omega) (by omega)
    have o2 := or_int (a := (K : Int) + 256 + (T : Int) * 512) (b := (S : Int) * 65536) 16 S (by omega) (by simp; omega) (by omega) (by omega) (by omega)
    go_enter Try.func53, Try.ntmps53
    go_wp2
    refine bodyPost_ret (v := .agg #[.int .u64 (lw : Int), .int .u64 K, .int .u64 T, .int .u64 S, .int .u64 1]) (by simp [results, Try.results53, go_sem, HL.out, lowN, mk1]) rfl ⟨rfl, ?_⟩
    (repeat (first | refine Below.setCell ?_ (by first | exact Nat.le_refl _ | (simp <;> omega)) _ | refine Below.alloc ?_ (by first | exact B.size | (have := B.size; simp <;> omega)) _)); exact B
theorem form_low (a b c d e : Int) (W : World) : (Instr.field 95 (.agg #[.int .u64 a, .int .u64 b, .int .u64 c, .int .u64 d, .int .u64 e]) 0).run Try.prog W = .ok (.int .u64 a) W := by kernel_rfl
set_option maxRecDepth 100000 in
theorem HWord_any (b : Hb) (v : UInt64) (r : Int) (hv : v = word b) (hr : r = hErr b) (w : World) :
    Calls Try.prog 19 #[.agg #[.int .i64 b.at_, .int .i64 b.size, .int .i64 b.kind, .int .i64 b.ty, .bool b.mark, .int .u64 b.next.toNat]] w fun e w' => e = .returned (.tuple #[.int .u64 v.toNat, .int .i64 r]) ∧ Below w.heap.size w w' := by
  have B : Below w.heap.size w w := Below.refl _ _
  have CT := Lib.hid (fun w => HCheck_any b r hr w)
  by_cases hb : BkOk b
  · rw [hErr_ok hb] at hr
    have hn := word_nat hb
    rw [← hv] at hn
    have hlt := lowN_lt hb
    obtain ⟨x, hx⟩ : ∃ x : UInt64, x = UInt64.ofNat (lowN b) := ⟨_, rfl⟩
    have hxn : x.toNat = lowN b := by rw [hx, UInt64.toNat_ofNat', Nat.mod_eq_of_lt (by omega)]
    have OT := Lib.hid (fun w => of_any b hb x.toNat hxn w)
    have ST := Lib.hid (fun w => sealed_any x v.toNat (by omega) (by rw [hn, wordN, ← hx, hxn]) w)
    subst hr
    have hf := fun W => form_low (x.toNat : Int) b.kind b.ty b.size (mk1 b.mark : Nat) W
    clear hv hb hn hlt hx hxn
    go_enter Try.func19, Try.ntmps19
    go_upto_region 1 with (fail)
    refine wp_gen (fun Wv => Bx Wv (w.heap.size) (38) (#[.int .i64 b.at_, .int .i64 b.size, .int .i64 b.kind, .int .i64 b.ty, .bool b.mark, .int .u64 b.next.toNat]) ∧ Below w.heap.size w Wv) ⟨((Bx.at_ (by simp))), ((Below.refl _ w).alloc (by simp <;> omega) _)⟩ ?_
    rintro wa1 ⟨g1, b⟩
    replace B := B.trans (b.mono B.size); clear b
    have c_g1 := g1.cell; have f_g1 := g1.free; have a_g1 := fun o => (g1.alloc o).cell; have d_g1 := fun o o2 => ((g1.alloc o).alloc o2).cell; have e_g1 := fun o => (g1.alloc o).free
    go_wp2_with fail
    refine (CT.out _).mono ?_
    rintro e wa2 ⟨rfl, b⟩
    try clear c_g1 f_g1 a_g1 d_g1 e_g1
    replace g1 := g1.below b; have c_g1 := g1.cell; have f_g1 := g1.free; have a_g1 := fun o => (g1.alloc o).cell; have d_g1 := fun o o2 => ((g1.alloc o).alloc o2).cell; have e_g1 := fun o => (g1.alloc o).free; replace B := B.trans (b.mono B.size); clear b
    go_wp2_with fail
    refine (OT.out _).mono ?_
    rintro e wa3 ⟨rfl, b⟩
    try clear c_g1 f_g1 a_g1 d_g1 e_g1
    replace g1 := g1.below b; have c_g1 := g1.cell; have f_g1 := g1.free; have a_g1 := fun o => (g1.alloc o).cell; have d_g1 := fun o o2 => ((g1.alloc o).alloc o2).cell; have e_g1 := fun o => (g1.alloc o).free; replace B := B.trans (b.mono B.size); clear b
    go_wp2_with fail
    refine (ST.out _).mono ?_
    rintro e wa4 ⟨rfl, b⟩
    try clear c_g1 f_g1 a_g1 d_g1 e_g1
    replace g1 := g1.below b; have c_g1 := g1.cell; have f_g1 := g1.free; have a_g1 := fun o => (g1.alloc o).cell; have d_g1 := fun o o2 => ((g1.alloc o).alloc o2).cell; have e_g1 := fun o => (g1.alloc o).free; replace B := B.trans (b.mono B.size); clear b
    go_wp2
    go_ret2
    exact ⟨rfl, B⟩
  · rw [hErr_no hb] at hr
    have hv0 : v = 0 := by rw [hv, word, if_neg hb]
    subst hr; subst hv0
    clear hv hb
    go_enter Try.func19, Try.ntmps19
    go_upto_region 1 with (fail)
    refine wp_gen (fun Wv => Bx Wv (w.heap.size) (38) (#[.int .i64 b.at_, .int .i64 b.size, .int .i64 b.kind, .int .i64 b.ty, .bool b.mark, .int .u64 b.next.toNat]) ∧ Below w.heap.size w Wv) ⟨((Bx.at_ (by simp))), ((Below.refl _ w).alloc (by simp <;> omega) _)⟩ ?_
    rintro wa1 ⟨g1, b⟩
    replace B := B.trans (b.mono B.size); clear b
    have c_g1 := g1.cell; have f_g1 := g1.free; have a_g1 := fun o => (g1.alloc o).cell; have d_g1 := fun o o2 => ((g1.alloc o).alloc o2).cell; have e_g1 := fun o => (g1.alloc o).free
    go_wp2_with fail
    refine (CT.out _).mono ?_
    rintro e wa2 ⟨rfl, b⟩
    try clear c_g1 f_g1 a_g1 d_g1 e_g1
    replace g1 := g1.below b; have c_g1 := g1.cell; have f_g1 := g1.free; have a_g1 := fun o => (g1.alloc o).cell; have d_g1 := fun o o2 => ((g1.alloc o).alloc o2).cell; have e_g1 := fun o => (g1.alloc o).free; replace B := B.trans (b.mono B.size); clear b
    go_wp2
    go_ret2
    exact ⟨rfl, B⟩
set_option maxRecDepth 100000 in
set_option maxHeartbeats 1000000 in
theorem HSplit_any (x : UInt64) (b : Hb) (r : Int) (hb : b = split x) (hr : r = splE x) (w : World) :
    Calls Try.prog 129 #[.int .u64 x.toNat] w fun e w' => e = .returned (.tuple #[.agg #[.int .i64 b.at_, .int .i64 b.size, .int .i64 b.kind, .int .i64 b.ty, .bool b.mark, .int .u64 b.next.toNat], .int .i64 r]) ∧ Below w.heap.size w w' := by
  have B : Below w.heap.size w w := Below.refl _ _
  have hxl := toNat_lt x
  obtain ⟨t, ht⟩ : ∃ t, t = told x := ⟨_, rfl⟩
  obtain ⟨v, hv⟩ : ∃ v, v = word t := ⟨_, rfl⟩
  obtain ⟨e, he⟩ : ∃ e, e = hErr t := ⟨_, rfl⟩
  have WT := Lib.hid (fun w => HWord_any t v e hv he w)
  have a1 := and_int (a := (x.toNat : Int)) 8 (by omega) (by omega) 255 (by decide) (by omega)
  have a2 := and_int (a := (x.toNat : Int) / 256) 1 (by omega) (by omega) 1 (by decide) (by omega)
  have a3 := and_int (a := (x.toNat : Int) / 512) 7 (by omega) (by omega) 127 (by decide) (by omega)
  have a4 := and_int (a := (x.toNat : Int) / 65536) 16 (by omega) (by omega) 65535 (by decide) (by omega)
  rw [show ((2 ^ 8 : Nat) : Int) = 256 from rfl] at a1
  rw [show ((2 ^ 1 : Nat) : Int) = 2 from rfl] at a2
  rw [show ((2 ^ 7 : Nat) : Int) = 128 from rfl] at a3
  rw [show ((2 ^ 16 : Nat) : Int) = 65536 from rfl] at a4
  have i1 : IntKind.i64.wrap ((x.toNat : Int) % 256) = (x.toNat : Int) % 256 := IntWalk.i64_in _ (by omega)
  have i3 : IntKind.i64.wrap ((x.toNat : Int) / 512 % 128) = (x.toNat : Int) / 512 % 128 := IntWalk.i64_in _ (by omega)
  have i4 : IntKind.i64.wrap ((x.toNat : Int) / 65536 % 65536) = (x.toNat : Int) / 65536 % 65536 := IntWalk.i64_in _ (by omega)
  have t1 : (x.toNat : Int) % 256 = t.kind := by rw [ht]; rfl
  have t3 : (x.toNat : Int) / 512 % 128 = t.ty := by rw [ht]; rfl
  have t4 : (x.toNat : Int) / 65536 % 65536 = t.size := by rw [ht]; rfl
  have t2 : ((x.toNat : Int) / 256 % 2 == 1) = t.mark := by
    rw [ht, Bool.eq_iff_iff, beq_iff_eq]
    show _ ↔ decide (x.toNat / 256 % 2 = 1) = true
    rw [decide_eq_true_iff]; omega
  have t5 : t.at_ = 0 := by rw [ht]; rfl
  have t6 : t.next = 0 := by rw [ht]; rfl
  have hcase : (e = 0 ∧ v = x ∧ b = t ∧ r = 0) ∨ (e ≠ 0 ∧ b = .none ∧ r = 50) ∨ (e = 0 ∧ v ≠ x ∧ b = .none ∧ r = 50) := by
    by_cases hk : BkOk t
    · by_cases hw : v = x
      · have hd : HdOk x := ⟨by rw [← ht]; exact hk, by rw [← ht, ← hv]; exact hw⟩
        exact .inl ⟨by rw [he, hErr_ok hk], hw, by rw [hb, split_told hd, ht], by rw [hr, splE, if_pos hd]⟩
      · have hd : ¬ HdOk x := fun h => hw (by rw [hv, ht]; exact h.2)
        exact .inr (.inr ⟨by rw [he, hErr_ok hk], hw, by rw [hb, split, if_neg hd], by rw [hr, splE, if_neg hd]⟩)
    · have hd : ¬ HdOk x := fun h => hk (by rw [ht]; exact h.1)
      exact .inr (.inl ⟨by rw [he, hErr_no hk]; decide, by rw [hb, split, if_neg hd], by rw [hr, splE, if_neg hd]⟩)
  obtain ⟨at_, size, kind, ty, mark, next⟩ := t
  dsimp only at t1 t2 t3 t4 t5 t6
  subst t5; subst t6
  have q1 := a1.trans t1; have q3 := a3.trans t3; have q4 := a4.trans t4
  have j1 : IntKind.i64.wrap kind = kind := by rw [← t1]; exact i1
  have j3 : IntKind.i64.wrap ty = ty := by rw [← t3]; exact i3
  have j4 : IntKind.i64.wrap size = size := by rw [← t4]; exact i4
  have WT' : Hid (∀ w, Calls Try.prog 19 #[.agg #[.int .i64 0, .int .i64 size, .int .i64 kind, .int .i64 ty, .bool mark, .int .u64 0]] w fun e_1 w' => e_1 = .returned (.tuple #[.int .u64 v.toNat, .int .i64 e]) ∧ Below w.heap.size w w') := WT
  clear ht hv he hb hr WT a1 a3 a4 i1 i3 i4 t1 t3 t4
  go_enter Try.func129, Try.ntmps129
  go_upto_region 2 with (fail)
  refine wp_gen (fun Wv => Bx Wv (w.heap.size) (38) (#[.int .i64 0, .int .i64 0, .int .i64 0, .int .i64 0, .bool false, .int .u64 0]) ∧ Bx Wv (w.heap.size + 1) (38) (#[.int .i64 0, .int .i64 size, .int .i64 kind, .int .i64 ty, .bool mark, .int .u64 0]) ∧ Below w.heap.size w Wv) ⟨(((Bx.at_ (by simp)).alloc _)), ((Bx.at_ (by simp))), (((Below.refl _ w).alloc (by simp <;> omega) _).alloc (by simp <;> omega) _)⟩ ?_
  rintro wa1 ⟨g1, g2, b⟩
  replace B := B.trans (b.mono B.size); clear b
  have c_g1 := g1.cell; have f_g1 := g1.free; have a_g1 := fun o => (g1.alloc o).cell; have d_g1 := fun o o2 => ((g1.alloc o).alloc o2).cell; have e_g1 := fun o => (g1.alloc o).free
  have c_g2 := g2.cell; have f_g2 := g2.free; have a_g2 := fun o => (g2.alloc o).cell; have d_g2 := fun o o2 => ((g2.alloc o).alloc o2).cell; have e_g2 := fun o => (g2.alloc o).free
  go_wp2_with fail
  refine (WT'.out _).mono ?_
  rintro e wa2 ⟨rfl, b⟩
  try clear c_g1 f_g1 a_g1 d_g1 e_g1
  replace g1 := g1.below b; have c_g1 := g1.cell; have f_g1 := g1.free; have a_g1 := fun o => (g1.alloc o).cell; have d_g1 := fun o o2 => ((g1.alloc o).alloc o2).cell; have e_g1 := fun o => (g1.alloc o).free; try clear c_g2 f_g2 a_g2 d_g2 e_g2
  replace g2 := g2.below b; have c_g2 := g2.cell; have f_g2 := g2.free; have a_g2 := fun o => (g2.alloc o).cell; have d_g2 := fun o o2 => ((g2.alloc o).alloc o2).cell; have e_g2 := fun o => (g2.alloc o).free; replace B := B.trans (b.mono B.size); clear b
  rcases hcase with ⟨rfl, rfl, rfl, rfl⟩ | ⟨h1, rfl, rfl⟩ | ⟨rfl, h1, rfl, rfl⟩
  · go_wp2
    refine bodyPost_ret (v := .tuple #[.agg #[.int .i64 0, .int .i64 size, .int .i64 kind, .int .i64 ty, .bool mark, .int .u64 0], .int .i64 0]) (by simp [results, Try.results129, go_sem, c_g1, f_g1, a_g1, e_g1, c_g2, f_g2, a_g2, e_g2]) rfl ?_
    refine ⟨rfl, ?_⟩
    (repeat (first | refine Below.setCell ?_ (by first | exact Nat.le_refl _ | (simp <;> omega)) _ | refine Below.alloc ?_ (by first | exact B.size | (have := B.size; simp <;> omega)) _)); exact B
  · have n1 : (e != 0) = true := by rw [bne_iff_ne]; exact h1
    go_wp2
    refine bodyPost_ret (v := .tuple #[.agg #[.int .i64 0, .int .i64 0, .int .i64 0, .int .i64 0, .bool false, .int .u64 0], .int .i64 50]) (by simp [results, Try.results129, go_sem, c_g1, f_g1, a_g1, e_g1, c_g2, f_g2, a_g2, e_g2]) rfl ?_
    refine ⟨rfl, ?_⟩
    (repeat (first | refine Below.setCell ?_ (by first | exact Nat.le_refl _ | (simp <;> omega)) _ | refine Below.alloc ?_ (by first | exact B.size | (have := B.size; simp <;> omega)) _)); exact B
  · have n1 : ((v.toNat : Int) != (x.toNat : Int)) = true := by rw [bne_iff_ne]; intro e; exact h1 (UInt64.toNat.inj (by omega))
    go_wp2
    refine bodyPost_ret (v := .tuple #[.agg #[.int .i64 0, .int .i64 0, .int .i64 0, .int .i64 0, .bool false, .int .u64 0], .int .i64 50]) (by simp [results, Try.results129, go_sem, c_g1, f_g1, a_g1, e_g1, c_g2, f_g2, a_g2, e_g2]) rfl ?_
    refine ⟨rfl, ?_⟩
    (repeat (first | refine Below.setCell ?_ (by first | exact Nat.le_refl _ | (simp <;> omega)) _ | refine Below.alloc ?_ (by first | exact B.size | (have := B.size; simp <;> omega)) _)); exact B
end Go.Proofs.Ytbfmdbeeiicabaa
namespace Go.Proofs.Ytbfmdbeeiicabaa
open Go.RowKit L01 L02 L05 L14
end Go.Proofs.Ytbfmdbeeiicabaa
