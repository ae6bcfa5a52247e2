/- Contracts of the functions that the laws 'N' reach, part 5. No condition. -/
import Derived.Test.YteejianjjpdimaaMNd
set_option linter.unusedVariables false
set_option linter.unusedSimpArgs false
namespace Go.Proofs.Yteejianjjpdimaa
open Go Go.RowKit
section
variable {P : Program} {ops : Array Oper} {md : Region.Mode}
def uponV (Post : World → Prop) (v : Value) : Result Next → Prop
  | .ok (.value u) w' => u = v ∧ Post w'
  | .ok .skip w' => v = undef ∧ Post w'
  | _ => False
def YieldsV (P : Program) (md : Region.Mode) (ops : Array Oper) (C : Array Bool → World → Prop) (i : Nat) (o : Oper) (v : Value) (a : Act) : Prop :=
  (Region.wanted o (yielded ops a.tmps) = true ∧ ∀ listed w, i ∈ Region.ready md ops listed → C listed w → uponV (C (listed.setIfInBounds i true)) v ((execOp a.eval o).run P w)) ∨
  (Region.wanted o (yielded ops a.tmps) = false ∧ v = undef ∧ ∀ listed w, i ∈ Region.ready md ops listed → C listed w → C (listed.setIfInBounds i true) w)
/-- number k0 yields the value x, whatever its world; the others as they do -/
def YieldsG (P : Program) (md : Region.Mode) (ops : Array Oper) (C : Array Bool → World → Prop) (k0 : Nat) (x : Value) (i : Nat) (o : Oper) (v : Value) (a : Act) : Prop :=
  (i = k0 ∧ v = x ∧ Region.wanted o (yielded ops a.tmps) = true) ∨ (i ≠ k0 ∧ YieldsV P md ops C i o v a)
theorem YieldsV.of_same {C : Array Bool → World → Prop} {i : Nat} {o : Oper} {v : Value} {a a' : Act} (hy : YieldsV P md ops C i o v a) (he : execOp a'.eval o = execOp a.eval o)
    (hw : Region.wanted o (yielded ops a'.tmps) = Region.wanted o (yielded ops a.tmps)) : YieldsV P md ops C i o v a' := by
  unfold YieldsV at *
  rw [he, hw]
  exact hy
theorem YieldsG.of_same {C : Array Bool → World → Prop} {k0 : Nat} {x : Value} {i : Nat} {o : Oper} {v : Value} {a a' : Act} (hy : YieldsG P md ops C k0 x i o v a) (he : execOp a'.eval o = execOp a.eval o)
    (hw : Region.wanted o (yielded ops a'.tmps) = Region.wanted o (yielded ops a.tmps)) : YieldsG P md ops C k0 x i o v a' := by
  rcases hy with ⟨h1, h2, h3⟩ | ⟨h1, h2⟩
  · exact .inl ⟨h1, h2, by rw [hw]; exact h3⟩
  · exact .inr ⟨h1, h2.of_same he hw⟩
/-- T a: what the operation k0 does at the act a -/
def qOpG (P : Program) (md : Region.Mode) (ops : Array Oper) (C : Array Bool → World → Prop) (k0 : Nat) (x : Value) (T : Sem Next → Prop) (i : Nat) (K : Act → Prop) (a : Act) : Prop :=
  match ops[i]? with
  | none => False
  | some o => ∃ v, (YieldsG P md ops C k0 x i o v a ∧ (i = k0 → T (execOp a.eval o))) ∧ K (a.put o.dst v)
variable {C : Array Bool → World → Prop} {k0 : Nat} {x : Value} {T : Sem Next → Prop}
theorem qOpG_mono {i : Nat} {a : Act} {K K' : Act → Prop} (h : ∀ a, K a → K' a) (hh : qOpG P md ops C k0 x T i K a) : qOpG P md ops C k0 x T i K' a := by
  unfold qOpG at *
  split
  · rename_i ho; simp only [ho] at hh
  · rename_i o ho
    simp only [ho] at hh
    obtain ⟨v, h1, h2⟩ := hh
    exact ⟨v, h1, h _ h2⟩
def wpAnyG (P : Program) (md : Region.Mode) (ops : Array Oper) (C : Array Bool → World → Prop) (k0 : Nat) (x : Value) (T : Sem Next → Prop) (Q : Array Bool → Act → Prop) : Nat → Array Bool → Act → Prop
  | 0, listed, a => Region.ready md ops listed = [] ∧ Q listed a
  | fuel + 1, listed, a =>
    (Region.ready md ops listed = [] → Q listed a) ∧
    ∀ i ∈ Region.ready md ops listed, qOpG P md ops C k0 x T i (wpAnyG P md ops C k0 x T Q fuel (listed.setIfInBounds i true)) a
theorem qOpG_put {i j : Nat} {oi oj : Oper} {v : Value} (hj : ops[j]? = some oj) (hap : oi.apart ops oj = true)
    (hsi : ∀ cs b, oi.op ≠ .select cs b) (hsj : ∀ cs b, oj.op ≠ .select cs b) {K : Act → Prop} {a : Act}
    (hy : YieldsG P md ops C k0 x i oi v a ∧ (i = k0 → T (execOp a.eval oi))) (h : qOpG P md ops C k0 x T j K (a.put oi.dst v)) :
    qOpG P md ops C k0 x T j (fun a' => (YieldsG P md ops C k0 x i oi v a' ∧ (i = k0 → T (execOp a'.eval oi))) ∧ K (a'.put oi.dst v)) a := by
  obtain ⟨h1, h2, h3⟩ := Oper.apart_spec hap
  unfold qOpG at *
  simp only [hj] at *
  obtain ⟨u, ⟨hu, hu2⟩, hn⟩ := h
  refine ⟨u, ⟨hu.of_same ?_ ?_, fun e => ?_⟩, ⟨hy.1.of_same ?_ ?_, fun e => ?_⟩, ?_⟩
  · exact (execOp_put oj hsj a oi.dst v h1).symm
  · exact (wanted_put oj a oi.dst v h1).symm
  · have := hu2 e; rwa [execOp_put oj hsj a oi.dst v h1] at this
  · exact execOp_put oi hsi a oj.dst u h3
  · exact wanted_put oi a oj.dst u h3
  · have := hy.2 e; rwa [execOp_put oi hsi a oj.dst u h3]
  · rw [← Act.put_comm a v u h2]; exact hn
theorem wpAnyG_first {Q : Array Bool → Act → Prop} {i : Nat} {oi : Oper} {v : Value} (hi : ops[i]? = some oi) (hsel : ∀ (j : Nat) (o : Oper) cs b, ops[j]? = some o → o.op ≠ .select cs b) :
    ∀ (fuel : Nat) (listed : Array Bool) (a : Act),
      (∀ j oj, ops[j]? = some oj → j ≠ i → listed.getD j true = false → (∀ e ∈ oj.after, Region.binds md e = true → e.on ≠ i) → oi.apart ops oj = true) →
      i ∈ Region.ready md ops listed → YieldsG P md ops C k0 x i oi v a ∧ (i = k0 → T (execOp a.eval oi)) →
      wpAnyG P md ops C k0 x T Q fuel (listed.setIfInBounds i true) (a.put oi.dst v) → wpAnyG P md ops C k0 x T Q (fuel + 1) listed a := by
  intro fuel
  induction fuel with
  | zero =>
    intro listed a _ hr hy H
    refine ⟨fun h => (by rw [h] at hr; cases hr), fun j hj => ?_⟩
    by_cases hji : j = i
    · subst hji
      unfold qOpG; simp only [hi]
      exact ⟨v, hy, H⟩
    · have := ready_mono hj hji
      rw [H.1] at this
      cases this
  | succ fuel ih =>
    intro listed a hfree hr hy H
    refine ⟨fun h => (by rw [h] at hr; cases hr), fun j hj => ?_⟩
    by_cases hji : j = i
    · subst hji
      unfold qOpG; simp only [hi]
      exact ⟨v, hy, H⟩
    · have h1 := H.2 j (ready_mono hj hji)
      obtain ⟨hjun, oj, hoj, hall⟩ := mem_ready.1 hj
      have hnot : ∀ e ∈ oj.after, Region.binds md e = true → e.on ≠ i := fun e he hb heq => by
        have h1 := hall e he hb
        have h0 := (mem_ready.1 hr).1
        rw [heq] at h1
        rcases Nat.lt_or_ge i listed.size with h' | h'
        · simp [h'] at h0 h1; rw [h0] at h1; cases h1
        · simp [Array.getElem?_eq_none h'] at h1
      have h2 := qOpG_put hoj (hfree j oj hoj hji hjun hnot) (fun cs b => hsel i oi cs b hi) (fun cs b => hsel j oj cs b hoj) hy h1
      have hfree' : ∀ k ok, ops[k]? = some ok → k ≠ i → (listed.setIfInBounds j true).getD k true = false →
          (∀ e ∈ ok.after, Region.binds md e = true → e.on ≠ i) → oi.apart ops ok = true := fun k ok hk hki hun hno => by
        refine hfree k ok hk hki ?_ hno
        by_cases hjk : j = k
        · subst hjk; exact hjun
        · rw [getD_set_ne true hjk] at hun; exact hun
      refine qOpG_mono (fun a' h3 => ih (listed.setIfInBounds j true) a' hfree' (ready_mono hr (Ne.symm hji)) h3.1 ?_) h2
      rw [Array.setIfInBounds_comm _ _ hji]
      exact h3.2
/-- the walk in the order of the text, number k first -/
def wpG (P : Program) (md : Region.Mode) (ops : Array Oper) (C : Array Bool → World → Prop) (k0 : Nat) (x : Value) (T : Sem Next → Prop) (Q : Act → Prop) : List Oper → Nat → Act → Prop
  | [], _, a => Q a
  | o :: rest, k, a => ∃ v, (YieldsG P md ops C k0 x k o v a ∧ (k = k0 → T (execOp a.eval o))) ∧ wpG P md ops C k0 x T Q rest (k + 1) (a.put o.dst v)
theorem wpAnyG_lex {Q : Array Bool → Act → Prop} (hs : Region.noSelect ops = true) : ∀ (l : List Oper) (k : Nat) (listed : Array Bool) (a : Act), (∀ j, l[j]? = ops[k + j]?) →
    Region.lexFrom md ops l.length k listed = true → wpG P md ops C k0 x T (Q (setAll l.length k listed)) l k a → wpAnyG P md ops C k0 x T Q l.length listed a
  | [], _, _, _, _, hB, h => ⟨by simpa [Region.lexFrom] using hB, h⟩
  | o :: l, k, listed, a, hl, hB, h => by
    have h0 : ops[k]? = some o := by simpa using (hl 0).symm
    simp only [List.length_cons, Region.lexFrom, Bool.and_eq_true] at hB
    obtain ⟨⟨hr, hf⟩, hB'⟩ := hB
    obtain ⟨v, hy, hK⟩ := h
    exact wpAnyG_first h0 (Region.noSelect_spec hs) l.length listed a (Region.free_spec h0 hf) (by simpa using hr) hy
      (wpAnyG_lex hs l (k + 1) _ _ (fun j => by have := hl (j + 1); simpa [Nat.add_assoc, Nat.add_comm 1 j] using this) hB' hK)
/-- behind the call: all is known -/
theorem wpAnyF_of_G {Q : Array Bool → Act → Prop} : ∀ (fuel : Nat) (listed : Array Bool) (a : Act), listed.getD k0 false = true → wpAnyG P md ops C k0 x T Q fuel listed a → wpAnyF P md ops C Q fuel listed a
  | 0, _, _, _, h => h
  | fuel + 1, listed, a, hk, h => by
    refine ⟨h.1, fun i hi => ?_⟩
    have h1 := h.2 i hi
    have hne : i ≠ k0 := fun e => by
      subst e
      have h0 := (mem_ready.1 hi).1
      rcases Nat.lt_or_ge i listed.size with h' | h'
      · simp [h'] at h0 hk; rw [h0] at hk; cases hk
      · simp [Array.getElem?_eq_none h'] at h0
    unfold qOpG at h1
    unfold qOpF
    split
    · rename_i ho; simp only [ho] at h1
    · rename_i o ho
      simp only [ho] at h1
      obtain ⟨v, ⟨h2, _⟩, h3⟩ := h1
      refine ⟨v, ?_, wpAnyF_of_G fuel _ _ (by rw [getD_set_ne false hne]; exact hk) h3⟩
      rcases h2 with ⟨e, _⟩ | ⟨_, h2⟩
      · exact absurd e hne
      · rcases h2 with ⟨hw, h4⟩ | h4
        · refine .inl ⟨hw, fun l w hl hC => ?_⟩
          have h5 := h4 l w hl hC
          cases hr : (execOp a.eval o).run P w with
          | ok n w' => rw [hr] at h5; cases n <;> simp only [uponV] at h5 <;> exact h5
          | halt y w' => rw [hr] at h5; simp only [uponV] at h5
        · exact .inr h4
theorem uponV_val {Post Post' : World → Prop} {v v' : Value} {r : Result Next} (h : uponV Post v r) (h' : uponV Post' v' r) : v = v' := by
  cases r with
  | ok n w' =>
    cases n <;> simp only [uponV] at h h'
    · rw [← h.1, ← h'.1]
    · rw [h.1, h'.1]
  | halt y w' => simp only [uponV] at h
/-- the theorem: G is what is not known ahead; val its value; C g what holds of worlds where it is g -/
theorem wpAny_of_G {G : Type} {val : G → Value} {V : G → Prop} {Cg : G → Array Bool → World → Prop} {Tg : Sem Next → Prop} {Q' : Exit → Act → World → Prop} (g0 : G) (hg0 : V g0)
    (hag : ∀ g g' listed w, listed.getD k0 false = false → Cg g listed w → Cg g' listed w)
    (hT : ∀ s listed w, Tg s → k0 ∈ Region.ready md ops listed → Cg g0 listed w → ∃ f args, s.run P w = .ok (.enter f args) w ∧ Calls P f args w fun e w' => ∃ g, V g ∧ e = .returned (val g) ∧ Cg g (listed.setIfInBounds k0 true) w') :
    ∀ (fuel : Nat) (listed : Array Bool) (a : Act) (w : World), listed.getD k0 false = false → Cg g0 listed w →
    (∀ g, V g → wpAnyG P md ops (Cg g) k0 (val g) Tg (fun listed a => ∀ w', Cg g listed w' → Q' .normal a w') fuel listed a) → wpAny P md ops Q' fuel listed a w
  | 0, listed, a, w, hk, hC, h => ⟨(h g0 hg0).1, (h g0 hg0).2 w hC⟩
  | fuel + 1, listed, a, w, hk, hC, h => by
    refine ⟨fun h0 => (h g0 hg0).1 h0 w hC, fun i hi => ?_⟩
    have h1 := (h g0 hg0).2 i hi
    unfold qOpG at h1
    unfold wpOp
    split
    · rename_i ho; simp only [ho] at h1
    · rename_i o ho
      simp only [ho] at h1
      obtain ⟨v, ⟨h2, hT0⟩, h3⟩ := h1
      rcases h2 with ⟨e, hv, hw⟩ | ⟨hne, h2⟩
      · subst e
        rw [if_pos hw]
        left
        obtain ⟨f, args, hr, hcall⟩ := hT _ listed w (hT0 rfl) hi hC
        unfold Oper.wp
        rw [hr]
        show Calls P f args w _
        refine hcall.mono fun e w'' ⟨g, hg, he, hCg⟩ => ?_
        subst he
        have h4 := (h g hg).2 i hi
        unfold qOpG at h4
        simp only [ho] at h4
        obtain ⟨v', ⟨h5, _⟩, h6⟩ := h4
        rcases h5 with ⟨_, e5, _⟩ | ⟨hne, _⟩
        · subst e5
          refine wpAny_of_F (C := Cg g) (Q := fun listed a => ∀ w', Cg g listed w' → Q' .normal a w') (fun l a w hC h => h w hC) fuel _ _ w'' hCg (wpAnyF_of_G fuel _ _ ?_ h6)
          exact (getD_on (mem_ready.1 hi).1).2
        · exact absurd rfl hne
      · have hset : (listed.setIfInBounds i true).getD k0 false = false := by rw [getD_set_ne false hne]; exact hk
        have hval : ∀ g, V g → wpAnyG P md ops (Cg g) k0 (val g) Tg (fun listed a => ∀ w', Cg g listed w' → Q' .normal a w') fuel (listed.setIfInBounds i true) (a.put o.dst v) := by
          intro g hg
          have h4 := (h g hg).2 i hi
          unfold qOpG at h4
          simp only [ho] at h4
          obtain ⟨v', ⟨h5, _⟩, h6⟩ := h4
          rcases h5 with ⟨e, _⟩ | ⟨_, h5⟩
          · exact absurd e hne
          · have hvv : v = v' := by
              rcases h2 with ⟨hw, ha⟩ | ⟨hw, rfl, _⟩
              · rcases h5 with ⟨_, hb⟩ | ⟨hw', _⟩
                · exact uponV_val (ha listed w hi hC) (hb listed w hi (hag _ _ _ _ hk hC))
                · rw [hw] at hw'; cases hw'
              · rcases h5 with ⟨hw', _⟩ | ⟨_, e, _⟩
                · rw [hw] at hw'; cases hw'
                · exact e.symm
            rw [hvv]; exact h6
        rcases h2 with ⟨hw, ha⟩ | ⟨hw, rfl, hv⟩
        · rw [if_pos hw]
          left
          have h5 := ha listed w hi hC
          unfold Oper.wp
          generalize (execOp a.eval o).run P w = r at *
          cases r with
          | ok n w' =>
            cases n <;> simp only [uponV] at h5 <;> simp only [Oper.upon]
            case value u => obtain ⟨e1, e2⟩ := h5; rw [e1]; exact wpAny_of_G g0 hg0 hag hT fuel _ _ w' hset e2 hval
            case skip => obtain ⟨e1, e2⟩ := h5; rw [← e1]; exact wpAny_of_G g0 hg0 hag hT fuel _ _ w' hset e2 hval
          | halt y w' => simp only [uponV] at h5
        · rw [if_neg (by rw [hw]; exact Bool.false_ne_true)]
          exact wpAny_of_G g0 hg0 hag hT fuel _ _ w hset (hv listed w hi hC) hval
end
section
variable {P : Program} {ops : Array Oper} {rest : List Oper} {o : Oper} {a : Act} {Q : Act → Prop} {F : (Nat → Bool) → World → Prop} {js : List Nat} {k k0 : Nat} {md : Region.Mode} {x : Value} {T : Sem Next → Prop}
theorem wpG_nil (h : Q a) : wpG P md ops (CN F) k0 x T Q [] k a := h
/-- the call -/
theorem wpG_call {dst : Option Tmp} {f : FuncId} {xs : Array Operand} {ats : Array TypeId} {ty : TypeId} {pos : String} {after : Array Edge} {g : Option (Nat × Bool)} (av : Array Value)
    (hw : Region.wanted ⟨dst, .call ⟨.value (.func f), xs, ats⟩, ty, pos, after, g⟩ (yielded ops a.tmps) = true) (hav : xs.map a.eval = av) (hcf : ∀ W, (callFunc f (#[] ++ av ++ #[])).run P W = .ok (.enter f av) W)
    (h : wpG P md ops (CN F) k x (fun s => ∀ W, s.run P W = .ok (.enter f av) W) Q rest (k + 1) (a.put dst x)) :
    wpG P md ops (CN F) k x (fun s => ∀ W, s.run P W = .ok (.enter f av) W) Q (⟨dst, .call ⟨.value (.func f), xs, ats⟩, ty, pos, after, g⟩ :: rest) k a :=
  ⟨x, ⟨.inl ⟨rfl, rfl, hw⟩, fun _ W => by rw [execOp_call_go, hav, hcf]⟩, h⟩
theorem wpG_read (hD : Dep F js) (hV : isV o.op = true) (hk : k ∉ js) (hk0 : k0 ∈ js) (h : wpQuiet P ops (fun W => ∃ x : FXN F, W = x.W) (fun a' => wpG P md ops (CN F) k0 x T Q rest (k + 1) a') [o] a) : wpG P md ops (CN F) k0 x T Q (o :: rest) k a := by
  have hne : k ≠ k0 := fun e => hk (e ▸ hk0)
  unfold wpQuiet at h
  split at h
  · rename_i hw
    obtain ⟨v, h1, h2⟩ := h
    refine ⟨v, ⟨.inr ⟨hne, .inl ⟨hw, fun listed W hl hW => ?_⟩⟩, fun e => absurd e hne⟩, h2⟩
    have h3 := h1 W ⟨⟨W, _, hW⟩, rfl⟩
    unfold Oper.quietAt at h3
    cases hr : (execOp a.eval o).run P W with
    | ok n w' =>
      obtain ⟨u, rfl⟩ := isV_value hV hr
      rw [hr] at h3
      simp only [Oper.quietUpon] at h3
      simp only [uponV]
      obtain ⟨e1, e2⟩ := h3
      subst e1
      exact ⟨e2, hW.skip hD hk⟩
    | halt x w' => rw [hr] at h3; simp only [Oper.quietUpon] at h3
  · rename_i hw
    exact ⟨undef, ⟨.inr ⟨hne, .inr ⟨by simpa using hw, rfl, fun listed W hl hW => hW.skip hD hk⟩⟩, fun e => absurd e hne⟩, h⟩
/-- an operation that changes the world, or a read at some worlds alone, where others that it waits for are done -/
theorem wpG_step (hD : Dep F js) (hk0 : (k != k0) = true) (hi : ops[k]? = some o) (hw : Region.wanted o (yielded ops a.tmps) = true) {v : Value} (dep : List Nat) (hd : (dep.all fun j => o.after.any fun e => Region.binds md e && e.on == j) = true)
    (hs : ∀ f W, F f W → f k = false → (∀ j ∈ dep, f j = true) → ∃ W', (execOp a.eval o).run P W = .ok (.value v) W' ∧ F (fun i => i == k || f i) W') (h : wpG P md ops (CN F) k0 x T Q rest (k + 1) (a.put o.dst v)) : wpG P md ops (CN F) k0 x T Q (o :: rest) k a := by
  have hne : k ≠ k0 := by simpa using hk0
  refine ⟨v, ⟨.inr ⟨hne, .inl ⟨hw, fun listed W hl hW => ?_⟩⟩, fun e => absurd e hne⟩, h⟩
  have hk : listed.getD k false = false := by
    have h1 := (mem_ready.1 hl).1
    rcases Nat.lt_or_ge k listed.size with h' | h'
    · simp [h'] at h1 ⊢; exact h1
    · simp [Array.getElem?_eq_none h'] at h1 
  obtain ⟨W', h1, h2⟩ := hs _ W hW hk (fun j hj => ready_after hi (List.all_eq_true.1 hd j hj) hl)
  rw [h1]
  refine ⟨rfl, hD _ _ _ (fun j hj => ?_) h2⟩
  by_cases hjk : j = k
  · subst hjk
    rw [(getD_on (mem_ready.1 hl).1).2]; simp
  · have hne : k ≠ j := Ne.symm hjk
    rw [getD_set_ne false hne]; simp [hjk]
theorem wpG_store (hD : Dep F js) (hk0 : (k != k0) = true) (hi : ops[k]? = some o) (ty : TypeId) (px py : Operand) (ho : o.op = .store ty px py) (hw : Region.wanted o (yielded ops a.tmps) = true) {p u : Value} (hx : a.eval px = p) (hy : a.eval py = u) (dep : List Nat) (hd : (dep.all fun j => o.after.any fun e => Region.binds md e && e.on == j) = true)
    (hs : ∀ f W, F f W → f k = false → (∀ j ∈ dep, f j = true) → ∃ W', (Instr.storeAt ty p u).run P W = .ok () W' ∧ F (fun i => i == k || f i) W') (h : wpG P md ops (CN F) k0 x T Q rest (k + 1) (a.put o.dst undef)) : wpG P md ops (CN F) k0 x T Q (o :: rest) k a := by
  have hne : k ≠ k0 := by simpa using hk0
  refine ⟨undef, ⟨.inr ⟨hne, .inl ⟨hw, fun listed W hl hW => ?_⟩⟩, fun e => absurd e hne⟩, h⟩
  have hk : listed.getD k false = false := by
    have h1 := (mem_ready.1 hl).1
    rcases Nat.lt_or_ge k listed.size with h' | h'
    · simp [h'] at h1 ⊢; exact h1
    · simp [Array.getElem?_eq_none h'] at h1 
  obtain ⟨W', h1, h2⟩ := hs _ W hW hk (fun j hj => ready_after hi (List.all_eq_true.1 hd j hj) hl)
  unfold execOp
  simp only [ho, hx, hy, Sem.run_bind, h1, Result.andThen_ok, Sem.run_pure, uponV, true_and]
  refine hD _ _ _ (fun j hj => ?_) h2
  by_cases hjk : j = k
  · subst hjk
    rw [(getD_on (mem_ready.1 hl).1).2]; simp
  · have hne : k ≠ j := Ne.symm hjk
    rw [getD_set_ne false hne]; simp [hjk]
end
/-- gd: what is laid for g before the call; it says nothing. -/
theorem wp_region_G {P : Program} {id : Nat} {Q : Exit → Act → World → Prop} {a : Act} {w : World} {l : List Oper} {G : Type} (val : G → Value) (V : G → Prop) (F : G → (Nat → Bool) → World → Prop) (js : List Nat) (k0 : Nat) (gd : G) (f : FuncId) (av : Array Value)
    (hD : ∀ g, Dep (F g) js) (hm : P.follows .mixedOrders = true) (hB : Region.lexB .any l.toArray = true)
    (hf : (js.all fun j => (setAll l.length 0 (Array.replicate l.length false)).getD j false) = true)
    (hag : ∀ g g' φ W, φ k0 = false → F g φ W → F g' φ W) (hC : F gd (fun _ => false) w.drew) (hk0 : k0 ∈ js)
    (hcall : ∀ φ W, φ k0 = false → F gd φ W → Calls P f av W fun e W' => ∃ g, V g ∧ e = .returned (val g) ∧ F g (fun i => i == k0 || φ i) W')
    (h : ∀ g, V g → wpG P .any l.toArray (CN (F g)) k0 (val g) (fun s => ∀ W, s.run P W = .ok (.enter f av) W) (fun a' => ∀ w', F g (fun _ => true) w' → Q .normal a' w') l 0 a) : (Code.region id l.toArray true).wp P Q a w := by
  obtain ⟨g0, hg0⟩ : ∃ g, V g := by
    obtain ⟨e, w', fr, ⟨g, hg, _⟩, _⟩ := hcall (fun _ => false) w.drew rfl hC []
    exact ⟨g, hg⟩
  have hrep : ∀ j, (Array.replicate l.length false).getD j false = false := fun j => getD_replicate_false _ _
  simp only [Region.lexB, Bool.and_eq_true] at hB
  refine wp_region_any hm (wpAny_of_G (val := val) (V := V) (Cg := fun g => CN (F g)) (Tg := fun s => ∀ W, s.run P W = .ok (.enter f av) W) (k0 := k0) g0 hg0 ?_ ?_ _ _ _ _ (by simpa using hrep k0) ?_ ?_)
  · intro g g' listed W hk hW
    exact hag g g' _ W hk hW
  · intro s listed W hs hr hW
    refine ⟨f, av, hs W, ?_⟩
    have hk : listed.getD k0 false = false := by
      have h1 := (mem_ready.1 hr).1
      rcases Nat.lt_or_ge k0 listed.size with h' | h'
      · simp [h'] at h1 ⊢; exact h1
      · simp [Array.getElem?_eq_none h'] at h1
    refine (hcall _ W hk (hag _ _ _ _ hk hW)).mono fun e W' ⟨g, h1, h2, h3⟩ => ⟨g, h1, h2, ?_⟩
    refine hD g _ _ _ (fun j hj => ?_) h3
    by_cases hjk : j = k0
    · subst hjk
      rw [(getD_on (mem_ready.1 hr).1).2]; simp
    · have hne : k0 ≠ j := Ne.symm hjk
      rw [getD_set_ne false hne]; simp [hjk]
  · refine hD g0 _ _ _ (fun j _ => ?_) (hag gd g0 _ _ rfl hC)
    have := hrep j
    simpa using this.symm
  · intro g hg
    have e2 : ∀ w', CN (F g) (setAll l.length 0 (Array.replicate l.length false)) w' → F g (fun _ => true) w' := fun w' h' => hD g _ _ _ (fun j hj => by simpa using List.all_eq_true.1 hf j hj) h'
    have mono : ∀ (r : List Oper) (k : Nat) (a' : Act), wpG P .any l.toArray (CN (F g)) k0 (val g) (fun s => ∀ W, s.run P W = .ok (.enter f av) W) (fun a' => ∀ w', F g (fun _ => true) w' → Q .normal a' w') r k a' → wpG P .any l.toArray (CN (F g)) k0 (val g) (fun s => ∀ W, s.run P W = .ok (.enter f av) W) (fun a' => ∀ w', CN (F g) (setAll l.length 0 (Array.replicate l.length false)) w' → Q .normal a' w') r k a' := by
      intro r
      induction r with
      | nil => intro k a' h0 w' h'; exact h0 w' (e2 w' h')
      | cons o r ih => intro k a' h0; obtain ⟨v, h1, h2⟩ := h0; exact ⟨v, h1, ih _ _ h2⟩
    have := wpAnyG_lex (C := CN (F g)) (md := .any) (k0 := k0) (x := val g) (T := fun s => ∀ W, s.run P W = .ok (.enter f av) W) (Q := fun listed a' => ∀ w', CN (F g) listed w' → Q .normal a' w') hB.1 l 0 (Array.replicate l.length false) a (by simp) (by simpa using hB.2) (mono _ _ _ (h g hg))
    simpa using this
end Go.Proofs.Yteejianjjpdimaa
namespace Go.Proofs.Yteejianjjpdimaa
open Go.RowKit L02 L13 L18 L20
theorem run_lit0 {P : Program} {t e : TypeId} (W : World) (ht : P.underlying t = some (.slice e)) (hi : (P.info? e).isSome = true) : (Instr.buildSlice t 0 #[]).run P W = .ok (.slice (some ⟨W.heap.size, 0, none⟩) 0 0) (W.alloc (.cells #[] e)) := by
  obtain ⟨i, hi'⟩ := Option.isSome_iff_exists.1 hi
  simp [Instr.buildSlice, run_underlying ht, sizeOf, typeInfo, hi', go_sem]
set_option maxRecDepth 100000 in
set_option maxHeartbeats 1000000 in
theorem CloneW_rd (x : Value) (n : Nat) (xs : List Value) (hn : n ≤ 1000) (h1 : ∀ u ∈ xs, u.oneCell' = true) (w : World) (h : Rd w 1 x n xs) :
    Calls Try.prog 45 #[x] w fun e w' => ∃ y, e = .returned y ∧ w'.ownsRow w.heap.size 46 1 y n xs ∧ Below w.heap.size w w' := by
  have B : Below w.heap.size w w := Below.refl _ _
  have HX := Lib.hid h; have HU := Lib.hid h1
  obtain ⟨A, c, rfl, hc, _, hl, hA, _⟩ := h
  rcases A with _ | ad
  · have hc0 := hA rfl
    subst hc0
    obtain rfl : n = 0 := by omega
    obtain rfl : xs = [] := List.eq_nil_of_length_eq_zero (by simpa using hl)
    clear hl hA hc
    have q : ∀ W, (binOp .eql 43 (.slice none 0 0) (.slice none 0 0)).run Try.prog W = .ok (.bool true) W := fun W => Lib.run_eql_slice_nil W _ _ _ _ _ _ _ Try.underlying43
    go_enter Try.func45, Try.ntmps45
    go_wp2
    go_ret
    exact ⟨_, rfl, World.ownsRow_nil _ _ _ _, B⟩
  · clear hl hA hc
    have q : ∀ W, (binOp .eql 43 (.slice (some ad) n c) (.slice none 0 0)).run Try.prog W = .ok (.bool false) W := fun W => Lib.run_eql_slice_nil W _ _ _ _ _ _ _ Try.underlying43
    go_enter Try.func45, Try.ntmps45
    go_wp2_with (at_builtin; refine wpList_append (by rfl) rfl rfl rfl Try.underlying43 info_u64 rfl (by omega) (by exact lit0_own (Nat.le_refl _)) (by exact HX.out.alloc _) HU.out (by omega) (by omega) (by exact B.alloc B.size _) (Nat.le_refl _) ?_; intro v1 w3 o3 B3 g3; clear g3)
    go_ret
    exact ⟨_, rfl, by simpa using o3, B3⟩
set_option maxRecDepth 100000 in
set_option maxHeartbeats 1000000 in
theorem CloneB_rd (x : Value) (n : Nat) (xs : List Value) (hn : n ≤ 1000) (h1 : ∀ u ∈ xs, u.oneCell' = true) (w : World) (h : Rd w 1 x n xs) :
    Calls Try.prog 44 #[x] w fun e w' => ∃ y, e = .returned y ∧ w'.ownsRow w.heap.size 5 1 y n xs ∧ Below w.heap.size w w' := by
  have B : Below w.heap.size w w := Below.refl _ _
  have HX := Lib.hid h; have HU := Lib.hid h1
  obtain ⟨A, c, rfl, hc, _, hl, hA, _⟩ := h
  rcases A with _ | ad
  · have hc0 := hA rfl
    subst hc0
    obtain rfl : n = 0 := by omega
    obtain rfl : xs = [] := List.eq_nil_of_length_eq_zero (by simpa using hl)
    clear hl hA hc
    have q : ∀ W, (binOp .eql 41 (.slice none 0 0) (.slice none 0 0)).run Try.prog W = .ok (.bool true) W := fun W => Lib.run_eql_slice_nil W _ _ _ _ _ _ _ Try.underlying41
    go_enter Try.func44, Try.ntmps44
    go_wp2
    go_ret
    exact ⟨_, rfl, World.ownsRow_nil _ _ _ _, B⟩
  · clear hl hA hc
    have q : ∀ W, (binOp .eql 41 (.slice (some ad) n c) (.slice none 0 0)).run Try.prog W = .ok (.bool false) W := fun W => Lib.run_eql_slice_nil W _ _ _ _ _ _ _ Try.underlying41
    go_enter Try.func44, Try.ntmps44
    go_wp2_with (at_builtin; refine wpList_append (by rfl) rfl rfl rfl Try.underlying41 info_u8 rfl (by omega) (by exact lit0_own (Nat.le_refl _)) (by exact HX.out.alloc _) HU.out (by omega) (by omega) (by exact B.alloc B.size _) (Nat.le_refl _) ?_; intro v1 w3 o3 B3 g3; clear g3)
    go_ret
    exact ⟨_, rfl, by simpa using o3, B3⟩
set_option maxRecDepth 100000 in
set_option maxHeartbeats 1000000 in
theorem CloneS_rd (x : Value) (n : Nat) (xs : List Value) (hn : n ≤ 1000) (h1 : ∀ u ∈ xs, u.oneCell' = true) (w : World) (h : Rd w 3 x n xs) :
    Calls Try.prog 43 #[x] w fun e w' => ∃ y, e = .returned y ∧ w'.ownsRow w.heap.size 48 3 y n xs ∧ Below w.heap.size w w' := by
  have B : Below w.heap.size w w := Below.refl _ _
  have HX := Lib.hid h; have HU := Lib.hid h1
  obtain ⟨A, c, rfl, hc, _, hl, hA, _⟩ := h
  rcases A with _ | ad
  · have hc0 := hA rfl
    subst hc0
    obtain rfl : n = 0 := by omega
    obtain rfl : xs = [] := List.eq_nil_of_length_eq_zero (by simpa using hl)
    clear hl hA hc
    have q : ∀ W, (binOp .eql 24 (.slice none 0 0) (.slice none 0 0)).run Try.prog W = .ok (.bool true) W := fun W => Lib.run_eql_slice_nil W _ _ _ _ _ _ _ Try.underlying24
    go_enter Try.func43, Try.ntmps43
    go_wp2
    go_ret
    exact ⟨_, rfl, World.ownsRow_nil _ _ _ _, B⟩
  · clear hl hA hc
    have q : ∀ W, (binOp .eql 24 (.slice (some ad) n c) (.slice none 0 0)).run Try.prog W = .ok (.bool false) W := fun W => Lib.run_eql_slice_nil W _ _ _ _ _ _ _ Try.underlying24
    go_enter Try.func43, Try.ntmps43
    go_wp2_with (at_builtin; refine wpList_append (by rfl) rfl rfl rfl Try.underlying24 info_slot rfl (by omega) (by exact lit0_own (Nat.le_refl _)) (by exact HX.out.alloc _) HU.out (by omega) (by omega) (by exact B.alloc B.size _) (Nat.le_refl _) ?_; intro v1 w3 o3 B3 g3; clear g3)
    go_ret
    exact ⟨_, rfl, by simpa using o3, B3⟩
theorem CloneW_any (x : Value) (l : List UInt64) (hn : l.length ≤ 1000) (w : World) (h : Words w x l) :
    Calls Try.prog 45 #[x] w fun e w' => ∃ y, e = .returned y ∧ OwnW w' w.heap.size 46 y l ∧ Below w.heap.size w w' := CloneW_rd x _ _ hn (one_u64s l) w h
theorem CloneB_any (x : Value) (l : List UInt8) (hn : l.length ≤ 1000) (w : World) (h : Byts w x l) :
    Calls Try.prog 44 #[x] w fun e w' => ∃ y, e = .returned y ∧ OwnB w' w.heap.size 5 y l ∧ Below w.heap.size w w' := CloneB_rd x _ _ hn (one_u8s l) w h
theorem CloneS_any (x : Value) (l : List Sl) (hn : l.length ≤ 1000) (w : World) (h : Slots w x l) :
    Calls Try.prog 43 #[x] w fun e w' => ∃ y, e = .returned y ∧ OwnS w' w.heap.size 48 y l ∧ Below w.heap.size w w' := CloneS_rd x _ _ hn (tabL_one l) w h
end Go.Proofs.Yteejianjjpdimaa
namespace Go.Proofs.Yteejianjjpdimaa
open Go.RowKit
theorem grown_set (w : World) (p : Addr) (u : Value) : w.grownBy (w.setCell p u) (some p.block) :=
  ⟨rfl, rfl, rfl, by simp [World.setCell], fun k hk hne => Below.heap_setCell w p u k (fun e => hne (by rw [e]))⟩
theorem own_not_bx {w : World} {B e sz n p : Nat} {v : Value} {xs : List Value} {t : TypeId} {cs : Array Value} (h : w.ownsRow B e sz v n xs) (hg : Bx w p t cs) (hne : e ≠ t) : v.ownBlock = none ∨ v.ownBlock ≠ some p := by
  rcases h.2 with ⟨rfl, _⟩ | ⟨g, cap, cur, rfl, _, hgg, _⟩
  · exact .inl rfl
  · refine .inr ?_
    intro he
    simp [Value.ownBlock] at he
    subst he
    rw [Bx, hgg] at hg
    injection hg with hg
    injection hg with _ h2 _
    exact hne h2
theorem own_set {w : World} {B e sz n p i : Nat} {v u : Value} {xs : List Value} {t : TypeId} {cs : Array Value} (h : w.ownsRow B e sz v n xs) (hg : Bx w p t cs) (hne : e ≠ t) : (w.setCell ⟨p, i, none⟩ u).ownsRow B e sz v n xs :=
  World.ownsRow.kept h (grown_set w ⟨p, i, none⟩ u) (own_not_bx h hg hne)
theorem Bx.grown {w w' : World} {g : Nat} {t : TypeId} {cs : Array Value} {row : Option Nat} (h : Bx w g t cs) (hg : w.grownBy w' row) (hne : row = none ∨ row ≠ some g) : Bx w' g t cs := by
  have hl := h.lt
  unfold Bx at *
  rw [hg.block g hl (by
    rcases hne with rfl | h
    · simp
    · exact fun e => h e.symm)]
  exact h
/-- a store below the base of a row -/
theorem own_apart {w : World} {B e sz n p i : Nat} {v u : Value} {xs : List Value} (h : w.ownsRow B e sz v n xs) (hp : p < B) : (w.setCell ⟨p, i, none⟩ u).ownsRow B e sz v n xs := by
  refine World.ownsRow.kept h (grown_set w ⟨p, i, none⟩ u) ?_
  cases hv : v.ownBlock with
  | none => exact .inl rfl
  | some g => exact .inr (fun e => by injection e with e; subst e; have := (h.lt g hv).1; omega)
/-- the blocks from lo to hi are as they were -/
def Mid (lo hi : Nat) (w w' : World) : Prop := ∀ k, lo ≤ k → k < hi → w'.heap[k]? = w.heap[k]?
theorem Mid.refl (lo hi : Nat) (w : World) : Mid lo hi w w := fun _ _ _ => rfl
theorem Mid.set {lo hi : Nat} {w w' : World} (h : Mid lo hi w w') {p : Addr} (hp : p.block < lo ∨ hi ≤ p.block) (u : Value) : Mid lo hi w (w'.setCell p u) := fun k h1 h2 =>
  (Below.heap_setCell w' p u k (by omega)).trans (h k h1 h2)
theorem Mid.grown {lo hi : Nat} {w w' w'' : World} {row : Option Nat} (h : Mid lo hi w w') (hs : hi ≤ w'.heap.size) (hg : w'.grownBy w'' row) (hr : ∀ k, row = some k → k < lo ∨ hi ≤ k) : Mid lo hi w w'' := fun k h1 h2 =>
  (hg.block k (by omega) (fun e => by have := hr k e.symm; omega)).trans (h k h1 h2)
theorem Mid.below {lo hi : Nat} {w w' w'' : World} (h : Mid lo hi w w') (hs : hi ≤ w'.heap.size) (hb : Below w'.heap.size w' w'') : Mid lo hi w w'' := fun k h1 h2 =>
  (hb.block k (by omega)).trans (h k h1 h2)
end Go.Proofs.Yteejianjjpdimaa
namespace Go.Proofs.Yteejianjjpdimaa
open Go.RowKit L02 L13 L18 L20
def Small (m : Mo) : Prop := m.types.length ≤ 20 ∧ m.objs.length ≤ 962 ∧ m.slots.length ≤ 30 ∧ (∀ t ∈ m.types, t.length ≤ 20) ∧ ∀ o ∈ m.objs, o.fs.length ≤ 20
theorem small_chk {m : Mo} (h : chk m = 0) : Small m := by
  obtain ⟨h1, h2, h3, h4, h5, h6⟩ := chk_ok h
  have ht : ∀ t ∈ m.types, t.length ≤ 8 := fun t ht => (kErr_ok (h4 t ht)).1
  refine ⟨by omega, by omega, by omega, fun t hh => by have := ht t hh; omega, fun o ho => ?_⟩
  have ho' := h5 o ho
  have hty : o.ty.toNat < m.types.length := by have := ho'.1; omega
  have : ty m.types o ∈ m.types := by
    rw [ty, List.getD_eq_getElem?_getD, List.getElem?_eq_getElem hty]
    exact List.getElem_mem hty
  have := ht _ this
  have := ho'.2.1
  omega
theorem OwnT.set {w : World} {B p i : Nat} {v u : Value} {L : List (List UInt8)} {t : TypeId} {cs : Array Value} (h : OwnT w B v L) (hg : Bx w p t cs) (h1 : 41 ≠ t) (h2 : 5 ≠ t) : OwnT (w.setCell ⟨p, i, none⟩ u) B v L := by
  obtain ⟨vs, a1, a2, a4⟩ := h; exact ⟨vs, a1, own_set a2 hg h1, fun i x l h5 h6 => own_set (a4 i x l h5 h6) hg h2⟩
theorem OwnO.set {w : World} {B p i : Nat} {v u : Value} {L : List Ob} {t : TypeId} {cs : Array Value} (h : OwnO w B v L) (hg : Bx w p t cs) (h1 : 45 ≠ t) (h2 : 46 ≠ t) : OwnO (w.setCell ⟨p, i, none⟩ u) B v L := by
  obtain ⟨vs, a1, a2, a4, a5⟩ := h; exact ⟨vs, a1, own_set a2 hg h1, fun i x l h5 h6 => own_set (a4 i x l h5 h6) hg h2, a5⟩
/-- one more object: xs the slices of fields, x the new one; the row was appended to. -/
theorem OwnO.snoc {w w' : World} {base n : Nat} {v v' x : Value} {L : List Ob} {o : Ob} {vs : List Value} (h1 : vs.length = L.length) (ho0 : w.ownsRow base 45 2 v L.length (obC L vs)) (ho : w'.ownsRow base 45 2 v' n (obC L vs ++ [i64 o.ty, x]))
    (h4 : ∀ (i : Nat) x l, vs[i]? = some x → L[i]? = some l → OwnW w base 46 x l.fs) (h5 : ∀ (i j : Nat) x y, i ≠ j → vs[i]? = some x → vs[j]? = some y → x.ownBlock = none ∨ x.ownBlock ≠ y.ownBlock)
    (hx : OwnW w base 46 x o.fs) (hap : ∀ (i : Nat) y, vs[i]? = some y → (x.ownBlock = none ∨ x.ownBlock ≠ y.ownBlock) ∧ (y.ownBlock = none ∨ y.ownBlock ≠ x.ownBlock)) (hg : w.grownBy w' v.ownBlock) : OwnO w' base v' (L ++ [o]) := by
  have hn : n = (L ++ [o]).length := by have := ho.1; rw [List.length_append, obC_len h1] at this; simp at this ⊢; omega
  subst hn
  have keep : ∀ y m, OwnW w base 46 y m → OwnW w' base 46 y m := fun y m hy => World.ownsRow.kept hy hg (own_unlike hy ho0 (by decide))
  have idx : ∀ i, i ≥ vs.length → ∀ y, (vs ++ [x])[i]? = some y → i = vs.length ∧ y = x := by
    intro i hi y hy
    rw [List.getElem?_append_right hi] at hy
    have h0 : i - vs.length = 0 := by
      rcases Nat.eq_zero_or_pos (i - vs.length) with h | h
      · exact h
      · rw [List.getElem?_eq_none (by simp; omega)] at hy; cases hy
    rw [h0] at hy
    simp at hy
    exact ⟨by omega, hy.symm⟩
  refine ⟨vs ++ [x], by simp [h1], by rw [obC_snoc h1]; exact ho, fun i y l hy hl => ?_, fun i j y z hij hy hz => ?_⟩
  · by_cases hi : i < vs.length
    · rw [List.getElem?_append_left hi] at hy
      rw [List.getElem?_append_left (by omega)] at hl
      exact keep _ _ (h4 i y l hy hl)
    · obtain ⟨rfl, rfl⟩ := idx i (by omega) y hy
      rw [List.getElem?_append_right (by omega), h1] at hl
      simp at hl; subst hl
      exact keep _ _ hx
  · by_cases hi : i < vs.length
    · rw [List.getElem?_append_left hi] at hy
      by_cases hj : j < vs.length
      · rw [List.getElem?_append_left hj] at hz
        exact h5 i j y z hij hy hz
      · obtain ⟨_, rfl⟩ := idx j (by omega) z hz
        exact (hap i y hy).2
    · obtain ⟨e1, rfl⟩ := idx i (by omega) y hy
      by_cases hj : j < vs.length
      · rw [List.getElem?_append_left hj] at hz
        exact (hap j z hz).1
      · obtain ⟨e2, rfl⟩ := idx j (by omega) z hz
        omega
theorem own_form' {w : World} {B e sz n : Nat} {v : Value} {xs : List Value} (h : w.ownsRow B e sz v n xs) : ∃ A c, v = .slice A n c := by
  obtain ⟨A, c, e, _⟩ := Rd.of_own h; exact ⟨A, c, e⟩
/-- what one more copied type leaves of memory -/
theorem copyT_mem {w wr W1 W3 : World} {B0 p a b n : Nat} {xt y v o ys : Value} {vs : List Value} {L : List (List UInt8)} {t : List UInt8} {S : List Sl} {cs1 cs2 : Array Value}
    (z1 : vs.length = L.length) (z2 : wr.ownsRow B0 41 1 xt L.length vs) (z4 : ∀ (i : Nat) x l, vs[i]? = some x → L[i]? = some l → OwnB wr B0 5 x l)
    (oy : OwnB W1 wr.heap.size 5 y t) (b1 : Below wr.heap.size wr W1) (hown : W3.ownsRow B0 41 1 v n (vs ++ [y])) (hgr : (W1.alloc (.cells #[y] 41)).grownBy W3 xt.ownBlock)
    (q1 : Bx wr a 26 cs1) (q2 : Bx wr b 26 cs2) (q3 : Bx wr p 26 #[xt, o, ys]) (oS : OwnS wr B0 48 ys S) (B : Below B0 w wr) (hB : B0 ≤ wr.heap.size) (ha : a ≠ p) (hb : b ≠ p) (hp : B0 ≤ p) (hB0 : B0 ≤ w.heap.size) :
    (W3.cell? ⟨p, 0, none⟩ = some xt ∧ W3.frozen? ⟨p, 0, none⟩ = false) ∧ OwnT (W3.setCell ⟨p, 0, none⟩ v) B0 v (L ++ [t]) ∧ Bx (W3.setCell ⟨p, 0, none⟩ v) a 26 cs1 ∧ Bx (W3.setCell ⟨p, 0, none⟩ v) b 26 cs2 ∧ Bx (W3.setCell ⟨p, 0, none⟩ v) p 26 #[v, o, ys] ∧
      OwnS (W3.setCell ⟨p, 0, none⟩ v) B0 48 ys S ∧ Below B0 w (W3.setCell ⟨p, 0, none⟩ v) := by
  have b2 : Below wr.heap.size wr (W1.alloc (.cells #[y] 41)) := b1.alloc b1.size _
  have z2' := own_below z2 b2
  have nx := fun {g : Nat} {cs : Array Value} (hq : Bx (W1.alloc (.cells #[y] 41)) g 26 cs) => Bx.grown hq hgr (own_not_bx z2' hq (by decide))
  have r1 := nx (q1.below b2); have r2 := nx (q2.below b2); have r3 := nx (q3.below b2)
  have oS' : OwnS W3 B0 48 ys S := World.ownsRow.kept (own_below oS b2) hgr (own_unlike (own_below oS b2) z2' (by decide))
  have oT : OwnT W3 B0 v (L ++ [t]) := OwnT.snoc z1 z2' hown (fun i x l h5 h6 => OwnB.below (z4 i x l h5 h6) b2) (OwnB.below (own_mono oy hB) ((Below.refl _ W1).alloc (Nat.le_refl _) _)) hgr
  have B3 : Below B0 w W3 := (B.trans (b2.mono hB)).grown hgr (Nat.le_trans hB b2.size) (fun k hk => (z2'.lt k hk).1)
  refine ⟨⟨r3.cell 0, r3.free 0⟩, oT.set r3 (by decide) (by decide), r1.far (p := ⟨p, 0, none⟩) ha _, r2.far (p := ⟨p, 0, none⟩) hb _, ?_, own_set oS' r3 (by decide), B3.setCell (p := ⟨p, 0, none⟩) hp _⟩
  have := r3.set (i := 0) v
  simpa using this
theorem OwnT.kept {w w' : World} {B B2 e n sz : Nat} {v a : Value} {L : List (List UInt8)} {xs : List Value} (h : OwnT w B v L) (ha : w.ownsRow B2 e sz a n xs) (hg : w.grownBy w' a.ownBlock) (h1 : 41 ≠ e) (h2 : 5 ≠ e) : OwnT w' B v L := by
  obtain ⟨vs, a1, a2, a4⟩ := h
  exact ⟨vs, a1, World.ownsRow.kept a2 hg (own_unlike a2 ha h1), fun i x l h5 h6 => World.ownsRow.kept (a4 i x l h5 h6) hg (own_unlike (a4 i x l h5 h6) ha h2)⟩
/-- what one more copied object leaves of memory -/
theorem copyO_mem {w wr W1 W3 : World} {B0 p a b n : Nat} {ot y v xt ys : Value} {vs : List Value} {L : List Ob} {o : Ob} {S : List Sl} {T : List (List UInt8)} {cs1 cs2 : Array Value}
    (z1 : vs.length = L.length) (z2 : wr.ownsRow B0 45 2 ot L.length (obC L vs)) (z4 : ∀ (i : Nat) x l, vs[i]? = some x → L[i]? = some l → OwnW wr B0 46 x l.fs)
    (z5 : ∀ (i j : Nat) x y, i ≠ j → vs[i]? = some x → vs[j]? = some y → x.ownBlock = none ∨ x.ownBlock ≠ y.ownBlock)
    (oy : OwnW W1 wr.heap.size 46 y o.fs) (b1 : Below wr.heap.size wr W1) (hown : W3.ownsRow B0 45 2 v n (obC L vs ++ [i64 o.ty, y])) (hgr : (W1.alloc (.cells #[i64 o.ty, y] 45)).grownBy W3 ot.ownBlock)
    (q1 : Bx wr a 26 cs1) (q2 : Bx wr b 26 cs2) (q3 : Bx wr p 26 #[xt, ot, ys]) (oT : OwnT wr B0 xt T) (oS : OwnS wr B0 48 ys S) (B : Below B0 w wr) (hB : B0 ≤ wr.heap.size) (ha : a ≠ p) (hb : b ≠ p) (hp : B0 ≤ p) {q : Nat} {tq : TypeId} {cs4 : Array Value} (q4 : Bx wr q tq cs4) (hq : ot.ownBlock = none ∨ ot.ownBlock ≠ some q) (hqp : q ≠ p) :
    (W3.cell? ⟨p, 1, none⟩ = some ot ∧ W3.frozen? ⟨p, 1, none⟩ = false) ∧ OwnO (W3.setCell ⟨p, 1, none⟩ v) B0 v (L ++ [o]) ∧ Bx (W3.setCell ⟨p, 1, none⟩ v) a 26 cs1 ∧ Bx (W3.setCell ⟨p, 1, none⟩ v) b 26 cs2 ∧ Bx (W3.setCell ⟨p, 1, none⟩ v) p 26 #[xt, v, ys] ∧
      OwnT (W3.setCell ⟨p, 1, none⟩ v) B0 xt T ∧ OwnS (W3.setCell ⟨p, 1, none⟩ v) B0 48 ys S ∧ Below B0 w (W3.setCell ⟨p, 1, none⟩ v) ∧ Bx W3 q tq cs4 ∧ Bx (W3.setCell ⟨p, 1, none⟩ v) q tq cs4 := by
  have b2 : Below wr.heap.size wr (W1.alloc (.cells #[i64 o.ty, y] 45)) := b1.alloc b1.size _
  have z2' := own_below z2 b2
  have nx := fun {g : Nat} {cs : Array Value} (hq : Bx (W1.alloc (.cells #[i64 o.ty, y] 45)) g 26 cs) => Bx.grown hq hgr (own_not_bx z2' hq (by decide))
  have r1 := nx (q1.below b2); have r2 := nx (q2.below b2); have r3 := nx (q3.below b2)
  have oS' : OwnS W3 B0 48 ys S := World.ownsRow.kept (own_below oS b2) hgr (own_unlike (own_below oS b2) z2' (by decide))
  have oT' : OwnT W3 B0 xt T := (oT.below b2).kept z2' hgr (by decide) (by decide)
  have oO : OwnO W3 B0 v (L ++ [o]) := OwnO.snoc z1 z2' hown (fun i x l h5 h6 => OwnW.below (z4 i x l h5 h6) b2) z5 (OwnW.below (own_mono oy hB) ((Below.refl _ W1).alloc (Nat.le_refl _) _))
    (fun i x hx => own_ne (z4 i x _ hx (List.getElem?_eq_getElem (by have := (List.getElem?_eq_some_iff.1 hx).1; omega))) oy (Nat.le_refl _)) hgr
  have B3 : Below B0 w W3 := (B.trans (b2.mono hB)).grown hgr (Nat.le_trans hB b2.size) (fun k hk => (z2'.lt k hk).1)
  refine ⟨⟨r3.cell 1, r3.free 1⟩, oO.set r3 (by decide) (by decide), r1.far (p := ⟨p, 1, none⟩) ha _, r2.far (p := ⟨p, 1, none⟩) hb _, ?_, oT'.set r3 (by decide) (by decide), own_set oS' r3 (by decide), B3.setCell (p := ⟨p, 1, none⟩) hp _, (q4.below b2).grown hgr hq, ((q4.below b2).grown hgr hq).far (p := ⟨p, 1, none⟩) hqp _⟩
  have := r3.set (i := 1) v
  simpa using this
/-- a literal of one object -/
theorem lit_obj {w : World} {ty : Int} {x : Value} : Rd (w.alloc (.cells #[i64 ty, x] 45)) 2 (.slice (some ⟨w.heap.size, 0, none⟩) 1 1) 1 [i64 ty, x] := lit_rdK (n := 1) (sz := 2) rfl (by omega)
theorem one_obj {ty : Int} {x : Value} (h : x.oneCell' = true) : ∀ u ∈ [i64 ty, x], u.oneCell' = true := by
  intro u hu
  rcases List.mem_cons.1 hu with rfl | hu
  · rfl
  · simp at hu; subst hu; exact h
theorem OwnM.set {w : World} {B p i : Nat} {tv ov sv u : Value} {m : Mo} {cs : Array Value} (h : OwnM w B 48 tv ov sv m) (hg : Bx w p 26 cs) : OwnM (w.setCell ⟨p, i, none⟩ u) B 48 tv ov sv m :=
  ⟨h.t.set hg (by decide) (by decide), h.o.set hg (by decide) (by decide), own_set h.s hg (by decide)⟩
/-- a model's three cells are stored elsewhere -/
theorem OwnM.set3 {w : World} {B p : Nat} {tv ov sv a b c : Value} {m : Mo} {cs : Array Value} (h : OwnM w B 48 tv ov sv m) (hg : Bx w p 26 cs) :
    OwnM (((w.setCell ⟨p, 0, none⟩ a).setCell ⟨p, 1, none⟩ b).setCell ⟨p, 2, none⟩ c) B 48 tv ov sv m :=
  ((h.set hg).set (hg.set a)).set ((hg.set a).set b)
end Go.Proofs.Yteejianjjpdimaa
