/- Contracts of the functions that the laws 'N' reach, part 7. No condition. -/
import Derived.Test.YteejianjjpdimaaMNf
set_option linter.unusedVariables false
set_option linter.unusedSimpArgs false
namespace Go.Proofs.Yteejianjjpdimaa
open Go Go.RowKit
section
variable {P : Program} {ops : Array Oper} {md : Region.Mode}
/-- a number of nn yields its value, whatever its world; the others as they do -/
def YieldsM (P : Program) (md : Region.Mode) (ops : Array Oper) (C : Array Bool → World → Prop) (nn : Nat → Bool) (x : Nat → Value) (i : Nat) (o : Oper) (v : Value) (a : Act) : Prop :=
  (nn i = true ∧ v = x i ∧ Region.wanted o (yielded ops a.tmps) = true) ∨ (nn i = false ∧ YieldsV P md ops C i o v a)
theorem YieldsM.of_same {C : Array Bool → World → Prop} {nn : Nat → Bool} {x : Nat → Value} {i : Nat} {o : Oper} {v : Value} {a a' : Act} (hy : YieldsM P md ops C nn x i o v a) (he : execOp a'.eval o = execOp a.eval o)
    (hw : Region.wanted o (yielded ops a'.tmps) = Region.wanted o (yielded ops a.tmps)) : YieldsM P md ops C nn x i o v a' := by
  rcases hy with ⟨h1, h2, h3⟩ | ⟨h1, h2⟩
  · exact .inl ⟨h1, h2, by rw [hw]; exact h3⟩
  · exact .inr ⟨h1, h2.of_same he hw⟩
/-- T a: what the operation k0 does at the act a -/
def qOpM (P : Program) (md : Region.Mode) (ops : Array Oper) (C : Array Bool → World → Prop) (nn : Nat → Bool) (x : Nat → Value) (T : Nat → Sem Next → Prop) (i : Nat) (K : Act → Prop) (a : Act) : Prop :=
  match ops[i]? with
  | none => False
  | some o => ∃ v, (YieldsM P md ops C nn x i o v a ∧ (nn i = true → T i (execOp a.eval o))) ∧ K (a.put o.dst v)
variable {C : Array Bool → World → Prop} {nn : Nat → Bool} {x : Nat → Value} {T : Nat → Sem Next → Prop}
theorem qOpM_mono {i : Nat} {a : Act} {K K' : Act → Prop} (h : ∀ a, K a → K' a) (hh : qOpM P md ops C nn x T i K a) : qOpM P md ops C nn x T i K' a := by
  unfold qOpM at *
  split
  · rename_i ho; simp only [ho] at hh
  · rename_i o ho
    simp only [ho] at hh
    obtain ⟨v, h1, h2⟩ := hh
    exact ⟨v, h1, h _ h2⟩
def wpAnyM (P : Program) (md : Region.Mode) (ops : Array Oper) (C : Array Bool → World → Prop) (nn : Nat → Bool) (x : Nat → Value) (T : Nat → Sem Next → Prop) (Q : Array Bool → Act → Prop) : Nat → Array Bool → Act → Prop
  | 0, listed, a => Region.ready md ops listed = [] ∧ Q listed a
  | fuel + 1, listed, a =>
    (Region.ready md ops listed = [] → Q listed a) ∧
    ∀ i ∈ Region.ready md ops listed, qOpM P md ops C nn x T i (wpAnyM P md ops C nn x T Q fuel (listed.setIfInBounds i true)) a
theorem qOpM_put {i j : Nat} {oi oj : Oper} {v : Value} (hj : ops[j]? = some oj) (hap : oi.apart ops oj = true)
    (hsi : ∀ cs b, oi.op ≠ .select cs b) (hsj : ∀ cs b, oj.op ≠ .select cs b) {K : Act → Prop} {a : Act}
    (hy : YieldsM P md ops C nn x i oi v a ∧ (nn i = true → T i (execOp a.eval oi))) (h : qOpM P md ops C nn x T j K (a.put oi.dst v)) :
    qOpM P md ops C nn x T j (fun a' => (YieldsM P md ops C nn x i oi v a' ∧ (nn i = true → T i (execOp a'.eval oi))) ∧ K (a'.put oi.dst v)) a := by
  obtain ⟨h1, h2, h3⟩ := Oper.apart_spec hap
  unfold qOpM at *
  simp only [hj] at *
  obtain ⟨u, ⟨hu, hu2⟩, hn⟩ := h
  refine ⟨u, ⟨hu.of_same ?_ ?_, fun e => ?_⟩, ⟨hy.1.of_same ?_ ?_, fun e => ?_⟩, ?_⟩
  · exact (execOp_put oj hsj a oi.dst v h1).symm
  · exact (wanted_put oj a oi.dst v h1).symm
  · have := hu2 e; rwa [execOp_put oj hsj a oi.dst v h1] at this
  · exact execOp_put oi hsi a oj.dst u h3
  · exact wanted_put oi a oj.dst u h3
  · have := hy.2 e; rwa [execOp_put oi hsi a oj.dst u h3]
  · rw [← Act.put_comm a v u h2]; exact hn
theorem wpAnyM_first {Q : Array Bool → Act → Prop} {i : Nat} {oi : Oper} {v : Value} (hi : ops[i]? = some oi) (hsel : ∀ (j : Nat) (o : Oper) cs b, ops[j]? = some o → o.op ≠ .select cs b) :
    ∀ (fuel : Nat) (listed : Array Bool) (a : Act),
      (∀ j oj, ops[j]? = some oj → j ≠ i → listed.getD j true = false → (∀ e ∈ oj.after, Region.binds md e = true → e.on ≠ i) → oi.apart ops oj = true) →
      i ∈ Region.ready md ops listed → YieldsM P md ops C nn x i oi v a ∧ (nn i = true → T i (execOp a.eval oi)) →
      wpAnyM P md ops C nn x T Q fuel (listed.setIfInBounds i true) (a.put oi.dst v) → wpAnyM P md ops C nn x T Q (fuel + 1) listed a := by
  intro fuel
  induction fuel with
  | zero =>
    intro listed a _ hr hy H
    refine ⟨fun h => (by rw [h] at hr; cases hr), fun j hj => ?_⟩
    by_cases hji : j = i
    · subst hji
      unfold qOpM; simp only [hi]
      exact ⟨v, hy, H⟩
    · have := ready_mono hj hji
      rw [H.1] at this
      cases this
  | succ fuel ih =>
    intro listed a hfree hr hy H
    refine ⟨fun h => (by rw [h] at hr; cases hr), fun j hj => ?_⟩
    by_cases hji : j = i
    · subst hji
      unfold qOpM; simp only [hi]
      exact ⟨v, hy, H⟩
    · have h1 := H.2 j (ready_mono hj hji)
      obtain ⟨hjun, oj, hoj, hall⟩ := mem_ready.1 hj
      have hnot : ∀ e ∈ oj.after, Region.binds md e = true → e.on ≠ i := fun e he hb heq => by
        have h1 := hall e he hb
        have h0 := (mem_ready.1 hr).1
        rw [heq] at h1
        rcases Nat.lt_or_ge i listed.size with h' | h'
        · simp [h'] at h0 h1; rw [h0] at h1; cases h1
        · simp [Array.getElem?_eq_none h'] at h1
      have h2 := qOpM_put hoj (hfree j oj hoj hji hjun hnot) (fun cs b => hsel i oi cs b hi) (fun cs b => hsel j oj cs b hoj) hy h1
      have hfree' : ∀ k ok, ops[k]? = some ok → k ≠ i → (listed.setIfInBounds j true).getD k true = false →
          (∀ e ∈ ok.after, Region.binds md e = true → e.on ≠ i) → oi.apart ops ok = true := fun k ok hk hki hun hno => by
        refine hfree k ok hk hki ?_ hno
        by_cases hjk : j = k
        · subst hjk; exact hjun
        · rw [getD_set_ne true hjk] at hun; exact hun
      refine qOpM_mono (fun a' h3 => ih (listed.setIfInBounds j true) a' hfree' (ready_mono hr (Ne.symm hji)) h3.1 ?_) h2
      rw [Array.setIfInBounds_comm _ _ hji]
      exact h3.2
/-- the walk in the order of the text, number k first -/
def wpM (P : Program) (md : Region.Mode) (ops : Array Oper) (C : Array Bool → World → Prop) (nn : Nat → Bool) (x : Nat → Value) (T : Nat → Sem Next → Prop) (Q : Act → Prop) : List Oper → Nat → Act → Prop
  | [], _, a => Q a
  | o :: rest, k, a => ∃ v, (YieldsM P md ops C nn x k o v a ∧ (nn k = true → T k (execOp a.eval o))) ∧ wpM P md ops C nn x T Q rest (k + 1) (a.put o.dst v)
theorem wpAnyM_lex {Q : Array Bool → Act → Prop} (hs : Region.noSelect ops = true) : ∀ (l : List Oper) (k : Nat) (listed : Array Bool) (a : Act), (∀ j, l[j]? = ops[k + j]?) →
    Region.lexFrom md ops l.length k listed = true → wpM P md ops C nn x T (Q (setAll l.length k listed)) l k a → wpAnyM P md ops C nn x T Q l.length listed a
  | [], _, _, _, _, hB, h => ⟨by simpa [Region.lexFrom] using hB, h⟩
  | o :: l, k, listed, a, hl, hB, h => by
    have h0 : ops[k]? = some o := by simpa using (hl 0).symm
    simp only [List.length_cons, Region.lexFrom, Bool.and_eq_true] at hB
    obtain ⟨⟨hr, hf⟩, hB'⟩ := hB
    obtain ⟨v, hy, hK⟩ := h
    exact wpAnyM_first h0 (Region.noSelect_spec hs) l.length listed a (Region.free_spec h0 hf) (by simpa using hr) hy
      (wpAnyM_lex hs l (k + 1) _ _ (fun j => by have := hl (j + 1); simpa [Nat.add_assoc, Nat.add_comm 1 j] using this) hB' hK)
def uponN (P : Program) (Post : Value → World → Prop) : Result Next → Prop
  | .ok (.value u) w' => Post u w'
  | .ok (.enter f args) w' => Calls P f args w' (fun e w'' => ∃ u, e = .returned u ∧ Post u w'')
  | _ => False
theorem uponN_mono {P : Program} {Post Post' : Value → World → Prop} {r : Result Next} (h : ∀ v w, Post v w → Post' v w) (hr : uponN P Post r) : uponN P Post' r := by
  cases r with
  | ok n w' =>
    cases n <;> simp only [uponN] at hr ⊢
    case value u => exact h _ _ hr
    case enter f args => exact hr.mono fun e w'' ⟨u, he, hp⟩ => ⟨u, he, h _ _ hp⟩
  | halt y w' => simp only [uponN] at hr
/-- the theorem: G is what is not known ahead; val its values; Ag: two of G that do not differ in what has run; C g what holds of worlds where it is g -/
theorem wpAny_of_M {G : Type} {val : G → Nat → Value} {V : G → Prop} {Ag : Array Bool → G → G → Prop} {Cg : G → Array Bool → World → Prop} {Tg : Nat → Sem Next → Prop} {Q' : Exit → Act → World → Prop}
    (hrf : ∀ (l : Array Bool) g, Ag l g g) (htr : ∀ (l : Array Bool) g g' g'', Ag l g g' → Ag l g' g'' → Ag l g g'') (hmn : ∀ (l : Array Bool) i g g', Ag (l.setIfInBounds i true) g g' → l.getD i true = false → Ag l g g')
    (hvl : ∀ (l : Array Bool) i g g', nn i = true → l.getD i true = false → Ag (l.setIfInBounds i true) g g' → val g i = val g' i) (hag : ∀ (l : Array Bool) g g' w, Ag l g g' → Cg g l w → Cg g' l w)
    (hT : ∀ i s (l : Array Bool) w g, nn i = true → Tg i s → V g → i ∈ Region.ready md ops l → Cg g l w → uponN P (fun v w' => ∃ g', V g' ∧ Ag l g g' ∧ v = val g' i ∧ Cg g' (l.setIfInBounds i true) w') (s.run P w)) :
    ∀ (fuel : Nat) (l : Array Bool) (a : Act) (w : World) (g0 : G), V g0 → Cg g0 l w →
    (∀ g, V g → Ag l g0 g → wpAnyM P md ops (Cg g) nn (val g) Tg (fun l a => ∀ w', Cg g l w' → Q' .normal a w') fuel l a) → wpAny P md ops Q' fuel l a w
  | 0, l, a, w, g0, hg0, hC, h => ⟨(h g0 hg0 (hrf _ _)).1, (h g0 hg0 (hrf _ _)).2 w hC⟩
  | fuel + 1, l, a, w, g0, hg0, hC, h => by
    refine ⟨fun h0 => (h g0 hg0 (hrf _ _)).1 h0 w hC, fun i hi => ?_⟩
    have hun := (mem_ready.1 hi).1
    have h1 := (h g0 hg0 (hrf _ _)).2 i hi
    unfold qOpM at h1
    unfold wpOp
    split
    · rename_i ho; simp only [ho] at h1
    · rename_i o ho
      simp only [ho] at h1
      obtain ⟨v, ⟨h2, hT0⟩, h3⟩ := h1
      -- what comes behind a number of nn that has yielded val g' i
      have next : nn i = true → ∀ g', V g' → Ag l g0 g' → ∀ w', Cg g' (l.setIfInBounds i true) w' → wpAny P md ops Q' fuel (l.setIfInBounds i true) (a.put o.dst (val g' i)) w' := by
        intro hn g' hg' hA w' hC'
        refine wpAny_of_M hrf htr hmn hvl hag hT fuel _ _ w' g' hg' hC' fun g hg hA2 => ?_
        have h4 := (h g hg (htr _ _ _ _ hA (hmn _ _ _ _ hA2 hun))).2 i hi
        unfold qOpM at h4
        simp only [ho] at h4
        obtain ⟨v', ⟨h5, _⟩, h6⟩ := h4
        rcases h5 with ⟨_, e5, _⟩ | ⟨hne, _⟩
        · rw [hvl _ _ _ _ hn hun hA2, ← e5]; exact h6
        · rw [hn] at hne; cases hne
      rcases h2 with ⟨hn, hv, hw⟩ | ⟨hn, h2⟩
      · rw [if_pos hw]
        left
        have h5 := hT i _ l w g0 hn (hT0 hn) hg0 hi hC
        unfold Oper.wp
        generalize (execOp a.eval o).run P w = r at *
        cases r with
        | ok n w' =>
          cases n <;> simp only [uponN] at h5 <;> simp only [Oper.upon]
          case value u => obtain ⟨g', e1, e2, rfl, e4⟩ := h5; exact next hn g' e1 e2 _ e4
          case enter f args =>
            refine h5.mono fun e w'' ⟨u, he, g', e1, e2, e3, e4⟩ => ?_
            subst he; subst e3
            exact next hn g' e1 e2 _ e4
        | halt y w' => simp only [uponN] at h5
      · have hval : ∀ g, V g → Ag (l.setIfInBounds i true) g0 g → wpAnyM P md ops (Cg g) nn (val g) Tg (fun l a => ∀ w', Cg g l w' → Q' .normal a w') fuel (l.setIfInBounds i true) (a.put o.dst v) := by
          intro g hg hA2
          have hA := hmn _ _ _ _ hA2 hun
          have h4 := (h g hg hA).2 i hi
          unfold qOpM at h4
          simp only [ho] at h4
          obtain ⟨v', ⟨h5, _⟩, h6⟩ := h4
          rcases h5 with ⟨e, _⟩ | ⟨_, h5⟩
          · rw [hn] at e; cases e
          · have hvv : v = v' := by
              rcases h2 with ⟨hw, ha⟩ | ⟨hw, rfl, _⟩
              · rcases h5 with ⟨_, hb⟩ | ⟨hw', _⟩
                · exact uponV_val (ha l w hi hC) (hb l w hi (hag _ _ _ _ hA hC))
                · rw [hw] at hw'; cases hw'
              · rcases h5 with ⟨hw', _⟩ | ⟨_, e, _⟩
                · rw [hw] at hw'; cases hw'
                · exact e.symm
            rw [hvv]; exact h6
        rcases h2 with ⟨hw, ha⟩ | ⟨hw, rfl, hv⟩
        · rw [if_pos hw]
          left
          have h5 := ha l w hi hC
          unfold Oper.wp
          generalize (execOp a.eval o).run P w = r at *
          cases r with
          | ok n w' =>
            cases n <;> simp only [uponV] at h5 <;> simp only [Oper.upon]
            case value u => obtain ⟨e1, e2⟩ := h5; rw [e1]; exact wpAny_of_M hrf htr hmn hvl hag hT fuel _ _ w' g0 hg0 e2 hval
            case skip => obtain ⟨e1, e2⟩ := h5; rw [← e1]; exact wpAny_of_M hrf htr hmn hvl hag hT fuel _ _ w' g0 hg0 e2 hval
          | halt y w' => simp only [uponV] at h5
        · rw [if_neg (by rw [hw]; exact Bool.false_ne_true)]
          exact wpAny_of_M hrf htr hmn hvl hag hT fuel _ _ w g0 hg0 (hv l w hi hC) hval
end
section
variable {P : Program} {ops : Array Oper} {rest : List Oper} {o : Oper} {a : Act} {Q : Act → Prop} {F : (Nat → Bool) → World → Prop} {js : List Nat} {k : Nat} {nn : Nat → Bool} {md : Region.Mode} {x : Nat → Value} {T : Nat → Sem Next → Prop}
theorem wpM_nil (h : Q a) : wpM P md ops (CN F) nn x T Q [] k a := h
/-- an operation of nn -/
theorem wpM_new (hn : nn k = true) (hw : Region.wanted o (yielded ops a.tmps) = true) (hT : T k (execOp a.eval o)) (h : wpM P md ops (CN F) nn x T Q rest (k + 1) (a.put o.dst (x k))) : wpM P md ops (CN F) nn x T Q (o :: rest) k a :=
  ⟨x k, ⟨.inl ⟨hn, rfl, hw⟩, fun _ => hT⟩, h⟩
theorem wpM_read (hD : Dep F js) (hV : isV o.op = true) (hk : k ∉ js) (hn : nn k = false) (h : wpQuiet P ops (fun W => ∃ x : FXN F, W = x.W) (fun a' => wpM P md ops (CN F) nn x T Q rest (k + 1) a') [o] a) : wpM P md ops (CN F) nn x T Q (o :: rest) k a := by
  unfold wpQuiet at h
  split at h
  · rename_i hw
    obtain ⟨v, h1, h2⟩ := h
    refine ⟨v, ⟨.inr ⟨hn, .inl ⟨hw, fun listed W hl hW => ?_⟩⟩, fun e => by rw [hn] at e; cases e⟩, h2⟩
    have h3 := h1 W ⟨⟨W, _, hW⟩, rfl⟩
    unfold Oper.quietAt at h3
    cases hr : (execOp a.eval o).run P W with
    | ok n w' =>
      obtain ⟨u, rfl⟩ := isV_value hV hr
      rw [hr] at h3
      simp only [Oper.quietUpon] at h3
      simp only [uponV]
      obtain ⟨e1, e2⟩ := h3
      subst e1
      exact ⟨e2, hW.skip hD hk⟩
    | halt x w' => rw [hr] at h3; simp only [Oper.quietUpon] at h3
  · rename_i hw
    exact ⟨undef, ⟨.inr ⟨hn, .inr ⟨by simpa using hw, rfl, fun listed W hl hW => hW.skip hD hk⟩⟩, fun e => by rw [hn] at e; cases e⟩, h⟩
/-- an operation that yields one value in every world, and changes none -/
theorem wpM_pure (hD : Dep F js) (hk : k ∉ js) (hn : nn k = false) (hw : Region.wanted o (yielded ops a.tmps) = true) {v : Value} (hr : ∀ W, (execOp a.eval o).run P W = .ok (.value v) W) (h : wpM P md ops (CN F) nn x T Q rest (k + 1) (a.put o.dst v)) : wpM P md ops (CN F) nn x T Q (o :: rest) k a :=
  ⟨v, ⟨.inr ⟨hn, .inl ⟨hw, fun listed W hl hW => by rw [hr W]; exact ⟨rfl, hW.skip hD hk⟩⟩⟩, fun e => by rw [hn] at e; cases e⟩, h⟩
theorem wpM_store (hD : Dep F js) (hn : nn k = false) (hi : ops[k]? = some o) (ty : TypeId) (px py : Operand) (ho : o.op = .store ty px py) (hw : Region.wanted o (yielded ops a.tmps) = true) {p u : Value} (hx : a.eval px = p) (hy : a.eval py = u) (dep : List Nat) (hd : (dep.all fun j => o.after.any fun e => Region.binds md e && e.on == j) = true)
    (hs : ∀ f W, F f W → f k = false → (∀ j ∈ dep, f j = true) → ∃ W', (Instr.storeAt ty p u).run P W = .ok () W' ∧ F (fun i => i == k || f i) W') (h : wpM P md ops (CN F) nn x T Q rest (k + 1) (a.put o.dst undef)) : wpM P md ops (CN F) nn x T Q (o :: rest) k a := by
  refine ⟨undef, ⟨.inr ⟨hn, .inl ⟨hw, fun listed W hl hW => ?_⟩⟩, fun e => by rw [hn] at e; cases e⟩, h⟩
  have hk : listed.getD k false = false := by
    have h1 := (mem_ready.1 hl).1
    rcases Nat.lt_or_ge k listed.size with h' | h'
    · simp [h'] at h1 ⊢; exact h1
    · simp [Array.getElem?_eq_none h'] at h1 
  obtain ⟨W', h1, h2⟩ := hs _ W hW hk (fun j hj => ready_after hi (List.all_eq_true.1 hd j hj) hl)
  unfold execOp
  simp only [ho, hx, hy, Sem.run_bind, h1, Result.andThen_ok, Sem.run_pure, uponV, true_and]
  refine hD _ _ _ (fun j hj => ?_) h2
  by_cases hjk : j = k
  · subst hjk
    rw [(getD_on (mem_ready.1 hl).1).2]; simp
  · have hne : k ≠ j := Ne.symm hjk
    rw [getD_set_ne false hne]; simp [hjk]
end
/-- the region: ns are the operations whose values are not known ahead; dep what they wait for; T what they run -/
theorem wp_region_M {P : Program} {id : Nat} {Q : Exit → Act → World → Prop} {a : Act} {w : World} {l : List Oper} {G : Type} (val : G → Nat → Value) (Ag : (Nat → Bool) → G → G → Prop) (F : G → (Nat → Bool) → World → Prop) (js ns : List Nat) (dep : Nat → List Nat) (T : Nat → Sem Next → Prop) (g0 : G)
    (hD : ∀ g, Dep (F g) js) (hm : P.follows .mixedOrders = true) (hB : Region.lexB .any l.toArray = true)
    (hf : (js.all fun j => (setAll l.length 0 (Array.replicate l.length false)).getD j false) = true)
    (hnj : (ns.all fun k => js.contains k && match l.toArray[k]? with | some o => (dep k).all (fun j => o.after.any fun e => Region.binds .any e && e.on == j) | none => false) = true)
    (hAD : ∀ (φ ψ : Nat → Bool) g g', (∀ j ∈ js, φ j = ψ j) → Ag φ g g' → Ag ψ g g') (hrf : ∀ φ g, Ag φ g g) (htr : ∀ φ g g' g'', Ag φ g g' → Ag φ g' g'' → Ag φ g g'') (hmn : ∀ (φ : Nat → Bool) k g g', Ag (fun i => i == k || φ i) g g' → φ k = false → Ag φ g g')
    (hvl : ∀ (φ : Nat → Bool) k g g', k ∈ ns → φ k = false → Ag (fun i => i == k || φ i) g g' → val g k = val g' k) (hag : ∀ φ g g' W, Ag φ g g' → F g φ W → F g' φ W)
    (h0 : ∀ g, Ag (fun _ => false) g0 g) (hC : F g0 (fun _ => false) w.drew)
    (hT : ∀ k s (φ : Nat → Bool) W g, k ∈ ns → T k s → φ k = false → (∀ j ∈ dep k, φ j = true) → F g φ W → uponN P (fun v W' => ∃ g', Ag φ g g' ∧ v = val g' k ∧ F g' (fun i => i == k || φ i) W') (s.run P W))
    (h : ∀ g, wpM P .any l.toArray (CN (F g)) (fun i => ns.contains i) (val g) T (fun a' => ∀ w', F g (fun _ => true) w' → Q .normal a' w') l 0 a) : (Code.region id l.toArray true).wp P Q a w := by
  have hrep : ∀ j, (Array.replicate l.length false).getD j false = false := fun j => getD_replicate_false _ _
  simp only [Region.lexB, Bool.and_eq_true] at hB
  have un : ∀ {listed : Array Bool} {i : Nat}, listed.getD i true = false → listed.getD i false = false := fun {listed i} h1 => by
    rcases Nat.lt_or_ge i listed.size with h' | h'
    · simp [h'] at h1 ⊢; exact h1
    · simp [Array.getElem?_eq_none h'] at h1
  have set_on : ∀ {listed : Array Bool} {i : Nat}, listed.getD i true = false → ∀ j, (listed.setIfInBounds i true).getD j false = (j == i || listed.getD j false) := fun {listed i} h1 j => by
    by_cases hj : j = i
    · subst hj
      have := (getD_on h1).2
      simp [this]
    · rw [getD_set_ne false (Ne.symm hj)]; simp [hj]
  refine wp_region_any hm (wpAny_of_M (val := val) (V := fun _ => True) (Ag := fun listed => Ag (fun j => listed.getD j false)) (Cg := fun g => CN (F g)) (Tg := T) (nn := fun i => ns.contains i) ?_ ?_ ?_ ?_ ?_ ?_ _ _ _ _ g0 trivial ?_ ?_)
  · intro listed g; exact hrf _ g
  · intro listed g g' g'' h1 h2; exact htr _ _ _ _ h1 h2
  · intro listed i g g' h1 h2
    refine hmn _ i g g' (hAD _ _ _ _ (fun j _ => set_on h2 j) h1) (un h2)
  · intro listed i g g' hn h2 h1
    exact hvl _ i g g' (by simpa using hn) (un h2) (hAD _ _ _ _ (fun j _ => set_on h2 j) h1)
  · intro listed g g' W h1 h2; exact hag _ _ _ _ h1 h2
  · intro i s listed W g hn hs _ hr hW
    have hi : i ∈ ns := by simpa using hn
    have hun := (mem_ready.1 hr).1
    have hdp := List.all_eq_true.1 hnj i hi
    simp only [Bool.and_eq_true] at hdp
    have hdeps : ∀ j ∈ dep i, listed.getD j false = true := by
      obtain ⟨o, ho, _⟩ := (mem_ready.1 hr).2
      have h2 := hdp.2
      simp only [ho] at h2
      exact fun j hj => ready_after ho (List.all_eq_true.1 h2 j hj) hr
    have h3 := hT i s _ W g hi hs (un hun) hdeps hW
    refine uponN_mono (fun v W' ⟨g', e1, e2, e3⟩ => ⟨g', trivial, e1, e2, ?_⟩) h3
    exact hD g' _ _ _ (fun j _ => (set_on hun j).symm) e3
  · exact hD g0 _ _ _ (fun j _ => by have := hrep j; simpa using this.symm) hC
  · intro g _ _
    have e2 : ∀ w', CN (F g) (setAll l.length 0 (Array.replicate l.length false)) w' → F g (fun _ => true) w' := fun w' h' => hD g _ _ _ (fun j hj => by simpa using List.all_eq_true.1 hf j hj) h'
    have mono : ∀ (r : List Oper) (k : Nat) (a' : Act), wpM P .any l.toArray (CN (F g)) (fun i => ns.contains i) (val g) T (fun a' => ∀ w', F g (fun _ => true) w' → Q .normal a' w') r k a' → wpM P .any l.toArray (CN (F g)) (fun i => ns.contains i) (val g) T (fun a' => ∀ w', CN (F g) (setAll l.length 0 (Array.replicate l.length false)) w' → Q .normal a' w') r k a' := by
      intro r
      induction r with
      | nil => intro k a' h0 w' h'; exact h0 w' (e2 w' h')
      | cons o r ih => intro k a' h0; obtain ⟨v, h1, h2⟩ := h0; exact ⟨v, h1, ih _ _ h2⟩
    have := wpAnyM_lex (C := CN (F g)) (md := .any) (nn := fun i => ns.contains i) (x := val g) (T := T) (Q := fun listed a' => ∀ w', CN (F g) listed w' → Q .normal a' w') hB.1 l 0 (Array.replicate l.length false) a (by simp) (by simpa using hB.2) (mono _ _ _ (h g))
    simpa using this
end Go.Proofs.Yteejianjjpdimaa
namespace Go.Proofs.Yteejianjjpdimaa
open Go.RowKit L02 L13 L18 L20
theorem right_case {L : List Sl} {k : Nat} {s : Sl} {g r : Int} (hs : L[k]? = some s) (hr : r = rightErr L k g) : (s.used = false ∧ r = 28) ∨ (s.used = true ∧ (s.gen != g) = true ∧ r = 28) ∨ (s.used = true ∧ (s.gen != g) = false ∧ r = 0) := by
  have hk : k < L.length := (List.getElem?_eq_some_iff.1 hs).1
  have hgd : L.getD (k : Int).toNat .none = s := by simp [List.getD_eq_getElem?_getD, hs]
  have hrr : r = if s.used = true ∧ s.gen = g then 0 else 28 := by rw [hr, rightErr, if_pos (by omega), hgd]
  obtain ⟨gn, us, a⟩ := s
  dsimp only at *
  cases us
  · exact .inl ⟨rfl, by rw [hrr, if_neg (by simp)]⟩
  · by_cases hg : gn = g
    · exact .inr (.inr ⟨rfl, by rw [bne_eq_false_iff_eq]; exact hg, by rw [hrr, if_pos ⟨rfl, hg⟩]⟩)
    · exact .inr (.inl ⟨rfl, by rw [bne_iff_ne]; exact hg, by rw [hrr, if_neg (fun h => hg h.2)]⟩)
set_option maxRecDepth 100000 in
set_option maxHeartbeats 4000000 in
theorem find20_any (tv ov sv : Value) (m : Mo) (sl g : Int) (r : Int) (hr : r = rightErr m.slots sl g) (w : World) (h : Mod w tv ov sv m) :
    Calls Try.prog 39 #[.agg #[tv, ov, sv], .agg #[.int .i64 sl, .int .i64 g]] w fun e w' => e = .returned (.int .i64 r) ∧ Below w.heap.size w w' := by
  have B : Below w.heap.size w w := Below.refl _ _
  have ls := h.s.len
  obtain ⟨NS, hNS⟩ : ∃ N, N = m.slots.length := ⟨_, rfl⟩
  rw [← hNS] at ls
  by_cases hin : 0 ≤ sl ∧ sl < NS
  · obtain ⟨h0, h1⟩ := hin
    obtain ⟨k, rfl⟩ := Int.eq_ofNat_of_zero_le h0
    obtain ⟨b, o, s, ia, m0, m1, m2, hs⟩ := h.s.at_ (P := Try.prog) Try.underlying24 size_slot (k := k) (by omega)
    have hcase := right_case hs.out hr
    have n1 : ¬ (k : Int) < 0 := by omega
    have n2 : ¬ (NS : Int) ≤ (k : Int) := by omega
    have n3 : ¬ NS ≤ k := by omega
    obtain ⟨gn, us, a⟩ := s
    dsimp only at m0 m1 m2 hcase
    clear hr h hs hNS h0 h1
    rcases hcase with ⟨rfl, rfl⟩ | ⟨rfl, hne, rfl⟩ | ⟨rfl, hne, rfl⟩
    all_goals
      go_enter Try.func39, Try.ntmps39
      go_upto_region 1 with (fail)
      refine wp_gen (fun Wv => Bx Wv (w.heap.size) (26) (#[tv, ov, sv]) ∧ Bx Wv (w.heap.size + 1) (50) (#[.int .i64 k, .int .i64 g]) ∧ Below w.heap.size w Wv) ⟨(((Bx.at_ (by simp)).alloc _)), ((Bx.at_ (by simp))), (((Below.refl _ w).alloc (by simp <;> omega) _).alloc (by simp <;> omega) _)⟩ ?_
      rintro wa1 ⟨g1, g2, b⟩
      replace m0 := cell_later b m0; replace m1 := cell_later b m1; replace m2 := cell_later b m2; replace B := B.trans (b.mono B.size); clear b
      have c_g1 := g1.cell; have f_g1 := g1.free; have a_g1 := fun o => (g1.alloc o).cell; have d_g1 := fun o o2 => ((g1.alloc o).alloc o2).cell; have e_g1 := fun o => (g1.alloc o).free
      have c_g2 := g2.cell; have f_g2 := g2.free; have a_g2 := fun o => (g2.alloc o).cell; have d_g2 := fun o o2 => ((g2.alloc o).alloc o2).cell; have e_g2 := fun o => (g2.alloc o).free
      go_wp2
      go_ret
      refine ⟨rfl, ?_⟩
      (repeat (first | refine Below.setCell ?_ (by first | exact Nat.le_refl _ | (simp <;> omega)) _ | refine Below.alloc ?_ (by first | exact B.size | (have := B.size; simp <;> omega)) _)); exact B
  · have hr0 : r = 2 := by rw [hr, rightErr, if_neg (by omega)]
    clear hr h hNS
    subst hr0
    have hcase : sl < 0 ∨ ¬ sl < 0 ∧ (NS : Int) ≤ sl := by omega
    clear hin
    rcases hcase with h1 | ⟨h1, h2⟩
    all_goals
      go_enter Try.func39, Try.ntmps39
      go_upto_region 1 with (fail)
      refine wp_gen (fun Wv => Bx Wv (w.heap.size) (26) (#[tv, ov, sv]) ∧ Bx Wv (w.heap.size + 1) (50) (#[.int .i64 sl, .int .i64 g]) ∧ Below w.heap.size w Wv) ⟨(((Bx.at_ (by simp)).alloc _)), ((Bx.at_ (by simp))), (((Below.refl _ w).alloc (by simp <;> omega) _).alloc (by simp <;> omega) _)⟩ ?_
      rintro wa1 ⟨g1, g2, b⟩
      replace B := B.trans (b.mono B.size); clear b
      have c_g1 := g1.cell; have f_g1 := g1.free; have a_g1 := fun o => (g1.alloc o).cell; have d_g1 := fun o o2 => ((g1.alloc o).alloc o2).cell; have e_g1 := fun o => (g1.alloc o).free
      have c_g2 := g2.cell; have f_g2 := g2.free; have a_g2 := fun o => (g2.alloc o).cell; have d_g2 := fun o o2 => ((g2.alloc o).alloc o2).cell; have e_g2 := fun o => (g2.alloc o).free
      go_wp2
      go_ret
      exact ⟨rfl, B⟩
theorem enter_copied (x : Value) (W : World) : (callFunc 24 (#[] ++ #[x] ++ #[])).run Try.prog W = .ok (.enter 24 #[x]) W := by
  simp [go_sem]
structure GMod where
  t : Value
  o : Value
  s : Value
  W1 : World
def GMod.val (g : GMod) : Value := .agg #[g.t, g.o, g.s]
def wsC (w : World) (p : Nat) (g : GMod) : Nat → World
  | 0 => w.drew
  | 1 => g.W1
  | _ => ((g.W1.setCell ⟨p, 0, none⟩ g.t).setCell ⟨p, 1, none⟩ g.o).setCell ⟨p, 2, none⟩ g.s
set_option maxRecDepth 100000 in
set_option maxHeartbeats 4000000 in
theorem open20_no (tv ov sv : Value) (m : Mo) (sl g : Int) (r : Int) (hr : r = asked m sl g) (h0 : r ≠ 0) (w : World) (h : Mod w tv ov sv m) :
    Calls Try.prog 40 #[.agg #[tv, ov, sv], .agg #[.int .i64 sl, .int .i64 g]] w fun e w' => e = .returned (.tuple #[.agg #[.slice none 0 0, .slice none 0 0, .slice none 0 0], .int .i64 0, .int .i64 r]) ∧ Below w.heap.size w w' := by
  have B : Below w.heap.size w w := Below.refl _ _
  obtain ⟨c, hc⟩ : ∃ c, c = chk m := ⟨_, rfl⟩
  have CT := Lib.hid (fun w h => Check20_any tv ov sv m c hc w h)
  have H := Lib.hid h
  by_cases hc0 : c = 0
  · have hr1 : r = rightErr m.slots sl g := by rw [hr, asked_eq (by rw [← hc]; exact hc0)]
    have FT := Lib.hid (fun w h => find20_any tv ov sv m sl g r hr1 w h)
    have hne : (r != 0) = true := by rw [bne_iff_ne]; exact h0
    subst hc0
    clear hr hr1 h hc h0
    go_enter Try.func40, Try.ntmps40
    go_upto_region 1 with (fail)
    refine wp_gen (fun Wv => Bx Wv (w.heap.size) (26) (#[tv, ov, sv]) ∧ Bx Wv (w.heap.size + 1) (50) (#[.int .i64 sl, .int .i64 g]) ∧ Bx Wv (w.heap.size + 1 + 1) (26) (#[.slice none 0 0, .slice none 0 0, .slice none 0 0]) ∧ Below w.heap.size w Wv) ⟨((((Bx.at_ (by simp)).alloc _).alloc _)), (((Bx.at_ (by simp)).alloc _)), ((Bx.at_ (by simp))), ((((Below.refl _ w).alloc (by simp <;> omega) _).alloc (by simp <;> omega) _).alloc (by simp <;> omega) _)⟩ ?_
    rintro wa1 ⟨g1, g2, g3, b⟩
    replace B := B.trans (b.mono B.size); clear b
    have c_g1 := g1.cell; have f_g1 := g1.free; have a_g1 := fun o => (g1.alloc o).cell; have d_g1 := fun o o2 => ((g1.alloc o).alloc o2).cell; have e_g1 := fun o => (g1.alloc o).free
    have c_g2 := g2.cell; have f_g2 := g2.free; have a_g2 := fun o => (g2.alloc o).cell; have d_g2 := fun o o2 => ((g2.alloc o).alloc o2).cell; have e_g2 := fun o => (g2.alloc o).free
    have c_g3 := g3.cell; have f_g3 := g3.free; have a_g3 := fun o => (g3.alloc o).cell; have d_g3 := fun o o2 => ((g3.alloc o).alloc o2).cell; have e_g3 := fun o => (g3.alloc o).free
    go_wp2_with fail
    refine (CT.out _ (H.out.below B)).mono ?_
    rintro e wa2 ⟨rfl, b⟩
    try clear c_g1 f_g1 a_g1 d_g1 e_g1
    replace g1 := g1.below b; have c_g1 := g1.cell; have f_g1 := g1.free; have a_g1 := fun o => (g1.alloc o).cell; have d_g1 := fun o o2 => ((g1.alloc o).alloc o2).cell; have e_g1 := fun o => (g1.alloc o).free; try clear c_g2 f_g2 a_g2 d_g2 e_g2
    replace g2 := g2.below b; have c_g2 := g2.cell; have f_g2 := g2.free; have a_g2 := fun o => (g2.alloc o).cell; have d_g2 := fun o o2 => ((g2.alloc o).alloc o2).cell; have e_g2 := fun o => (g2.alloc o).free; try clear c_g3 f_g3 a_g3 d_g3 e_g3
    replace g3 := g3.below b; have c_g3 := g3.cell; have f_g3 := g3.free; have a_g3 := fun o => (g3.alloc o).cell; have d_g3 := fun o o2 => ((g3.alloc o).alloc o2).cell; have e_g3 := fun o => (g3.alloc o).free; replace B := B.trans (b.mono B.size); clear b
    go_wp2_with fail
    refine (FT.out _ (H.out.below B)).mono ?_
    rintro e wa3 ⟨rfl, b⟩
    try clear c_g1 f_g1 a_g1 d_g1 e_g1
    replace g1 := g1.below b; have c_g1 := g1.cell; have f_g1 := g1.free; have a_g1 := fun o => (g1.alloc o).cell; have d_g1 := fun o o2 => ((g1.alloc o).alloc o2).cell; have e_g1 := fun o => (g1.alloc o).free; try clear c_g2 f_g2 a_g2 d_g2 e_g2
    replace g2 := g2.below b; have c_g2 := g2.cell; have f_g2 := g2.free; have a_g2 := fun o => (g2.alloc o).cell; have d_g2 := fun o o2 => ((g2.alloc o).alloc o2).cell; have e_g2 := fun o => (g2.alloc o).free; try clear c_g3 f_g3 a_g3 d_g3 e_g3
    replace g3 := g3.below b; have c_g3 := g3.cell; have f_g3 := g3.free; have a_g3 := fun o => (g3.alloc o).cell; have d_g3 := fun o o2 => ((g3.alloc o).alloc o2).cell; have e_g3 := fun o => (g3.alloc o).free; replace B := B.trans (b.mono B.size); clear b
    go_wp2
    refine bodyPost_ret (v := .tuple #[.agg #[.slice none 0 0, .slice none 0 0, .slice none 0 0], .int .i64 0, .int .i64 r]) (by simp [results, Try.results40, go_sem, c_g1, f_g1, a_g1, e_g1, c_g2, f_g2, a_g2, e_g2, c_g3, f_g3, a_g3, e_g3]) rfl ?_
    refine ⟨rfl, ?_⟩
    (repeat (first | refine Below.setCell ?_ (by first | exact Nat.le_refl _ | (simp <;> omega)) _ | refine Below.alloc ?_ (by first | exact B.size | (have := B.size; simp <;> omega)) _)); exact B
  · have hr1 : r = c := by rw [hr, asked_no (by rw [← hc]; exact hc0), hc]
    have hne : (c != 0) = true := by rw [bne_iff_ne]; exact hc0
    subst hr1
    clear hr h hc h0 hc0
    go_enter Try.func40, Try.ntmps40
    go_upto_region 1 with (fail)
    refine wp_gen (fun Wv => Bx Wv (w.heap.size) (26) (#[tv, ov, sv]) ∧ Bx Wv (w.heap.size + 1) (50) (#[.int .i64 sl, .int .i64 g]) ∧ Bx Wv (w.heap.size + 1 + 1) (26) (#[.slice none 0 0, .slice none 0 0, .slice none 0 0]) ∧ Below w.heap.size w Wv) ⟨((((Bx.at_ (by simp)).alloc _).alloc _)), (((Bx.at_ (by simp)).alloc _)), ((Bx.at_ (by simp))), ((((Below.refl _ w).alloc (by simp <;> omega) _).alloc (by simp <;> omega) _).alloc (by simp <;> omega) _)⟩ ?_
    rintro wa1 ⟨g1, g2, g3, b⟩
    replace B := B.trans (b.mono B.size); clear b
    have c_g1 := g1.cell; have f_g1 := g1.free; have a_g1 := fun o => (g1.alloc o).cell; have d_g1 := fun o o2 => ((g1.alloc o).alloc o2).cell; have e_g1 := fun o => (g1.alloc o).free
    have c_g2 := g2.cell; have f_g2 := g2.free; have a_g2 := fun o => (g2.alloc o).cell; have d_g2 := fun o o2 => ((g2.alloc o).alloc o2).cell; have e_g2 := fun o => (g2.alloc o).free
    have c_g3 := g3.cell; have f_g3 := g3.free; have a_g3 := fun o => (g3.alloc o).cell; have d_g3 := fun o o2 => ((g3.alloc o).alloc o2).cell; have e_g3 := fun o => (g3.alloc o).free
    go_wp2_with fail
    refine (CT.out _ (H.out.below B)).mono ?_
    rintro e wa2 ⟨rfl, b⟩
    try clear c_g1 f_g1 a_g1 d_g1 e_g1
    replace g1 := g1.below b; have c_g1 := g1.cell; have f_g1 := g1.free; have a_g1 := fun o => (g1.alloc o).cell; have d_g1 := fun o o2 => ((g1.alloc o).alloc o2).cell; have e_g1 := fun o => (g1.alloc o).free; try clear c_g2 f_g2 a_g2 d_g2 e_g2
    replace g2 := g2.below b; have c_g2 := g2.cell; have f_g2 := g2.free; have a_g2 := fun o => (g2.alloc o).cell; have d_g2 := fun o o2 => ((g2.alloc o).alloc o2).cell; have e_g2 := fun o => (g2.alloc o).free; try clear c_g3 f_g3 a_g3 d_g3 e_g3
    replace g3 := g3.below b; have c_g3 := g3.cell; have f_g3 := g3.free; have a_g3 := fun o => (g3.alloc o).cell; have d_g3 := fun o o2 => ((g3.alloc o).alloc o2).cell; have e_g3 := fun o => (g3.alloc o).free; replace B := B.trans (b.mono B.size); clear b
    go_wp2
    refine bodyPost_ret (v := .tuple #[.agg #[.slice none 0 0, .slice none 0 0, .slice none 0 0], .int .i64 0, .int .i64 r]) (by simp [results, Try.results40, go_sem, c_g1, f_g1, a_g1, e_g1, c_g2, f_g2, a_g2, e_g2, c_g3, f_g3, a_g3, e_g3]) rfl ?_
    refine ⟨rfl, ?_⟩
    (repeat (first | refine Below.setCell ?_ (by first | exact Nat.le_refl _ | (simp <;> omega)) _ | refine Below.alloc ?_ (by first | exact B.size | (have := B.size; simp <;> omega)) _)); exact B
theorem OwnM.forms {w : World} {B E : Nat} {tv ov sv : Value} {m : Mo} (h : OwnM w B E tv ov sv m) : (∃ A n c, tv = .slice A n c) ∧ (∃ A n c, ov = .slice A n c) ∧ ∃ A n c, sv = .slice A n c := by
  obtain ⟨⟨_, _, z2, _⟩, ⟨_, _, y2, _⟩, s⟩ := h
  obtain ⟨A, c, e⟩ := own_form' z2; obtain ⟨A', c', e'⟩ := own_form' y2; obtain ⟨A'', c'', e''⟩ := own_form' s
  exact ⟨⟨A, _, c, e⟩, ⟨A', _, c', e'⟩, ⟨A'', _, c'', e''⟩⟩
set_option maxRecDepth 100000 in
set_option maxHeartbeats 4000000 in
theorem open20_ok (tv ov sv : Value) (m : Mo) (sl g : Int) (n : Nat) (h0 : asked m sl g = 0) (hn : own m sl = n) (w : World) (h : Mod w tv ov sv m) :
    Calls Try.prog 40 #[.agg #[tv, ov, sv], .agg #[.int .i64 sl, .int .i64 g]] w fun e w' => ∃ tv' ov' sv', e = .returned (.tuple #[.agg #[tv', ov', sv'], .int .i64 n, .int .i64 0]) ∧ OwnM w' w.heap.size 48 tv' ov' sv' m ∧ Below w.heap.size w w' := by
  have B : Below w.heap.size w w := Below.refl _ _
  obtain ⟨c0, hr0, k, s, n', o, t, hk, hk16, hs, hu, hg, hso, hat, hown, _⟩ := asked_ok h0
  obtain rfl : n' = n := by rw [← hown, hn]
  subst hk
  have CT := Lib.hid (fun w h => Check20_any tv ov sv m 0 c0.symm w h)
  have FT := Lib.hid (fun w h => find20_any tv ov sv m k g 0 hr0.symm w h)
  have CP := Lib.hid (fun w h => copied_any tv ov sv m (small_chk c0) w h)
  have hkl : k < m.slots.length := (List.getElem?_eq_some_iff.1 hs).1
  obtain ⟨b, q, s', ia, m0, m1, m2, hs'⟩ := h.s.at_ (P := Try.prog) Try.underlying24 size_slot hkl
  obtain rfl : s' = s := by have := hs'.out; rw [hs] at this; injection this with this; exact this.symm
  rw [hat] at m2
  have H := Lib.hid h
  clear h0 hr0 hs hs' hu hg hso hat hown hn c0 h m0 m1 hkl
  go_enter Try.func40, Try.ntmps40
  go_upto_region 1 with (fail)
  refine wp_gen (fun Wv => Bx Wv (w.heap.size) (26) (#[tv, ov, sv]) ∧ Bx Wv (w.heap.size + 1) (50) (#[.int .i64 k, .int .i64 g]) ∧ Bx Wv (w.heap.size + 1 + 1) (26) (#[.slice none 0 0, .slice none 0 0, .slice none 0 0]) ∧ Below w.heap.size w Wv) ⟨((((Bx.at_ (by simp)).alloc _).alloc _)), (((Bx.at_ (by simp)).alloc _)), ((Bx.at_ (by simp))), ((((Below.refl _ w).alloc (by simp <;> omega) _).alloc (by simp <;> omega) _).alloc (by simp <;> omega) _)⟩ ?_
  rintro wa1 ⟨g1, g2, g3, b⟩
  replace B := B.trans (b.mono B.size); clear b
  have c_g1 := g1.cell; have f_g1 := g1.free; have a_g1 := fun o => (g1.alloc o).cell; have d_g1 := fun o o2 => ((g1.alloc o).alloc o2).cell; have e_g1 := fun o => (g1.alloc o).free
  have c_g2 := g2.cell; have f_g2 := g2.free; have a_g2 := fun o => (g2.alloc o).cell; have d_g2 := fun o o2 => ((g2.alloc o).alloc o2).cell; have e_g2 := fun o => (g2.alloc o).free
  have c_g3 := g3.cell; have f_g3 := g3.free; have a_g3 := fun o => (g3.alloc o).cell; have d_g3 := fun o o2 => ((g3.alloc o).alloc o2).cell; have e_g3 := fun o => (g3.alloc o).free
  go_wp2_with fail
  refine (CT.out _ (H.out.below B)).mono ?_
  rintro e wa2 ⟨rfl, b⟩
  try clear c_g1 f_g1 a_g1 d_g1 e_g1
  replace g1 := g1.below b; have c_g1 := g1.cell; have f_g1 := g1.free; have a_g1 := fun o => (g1.alloc o).cell; have d_g1 := fun o o2 => ((g1.alloc o).alloc o2).cell; have e_g1 := fun o => (g1.alloc o).free; try clear c_g2 f_g2 a_g2 d_g2 e_g2
  replace g2 := g2.below b; have c_g2 := g2.cell; have f_g2 := g2.free; have a_g2 := fun o => (g2.alloc o).cell; have d_g2 := fun o o2 => ((g2.alloc o).alloc o2).cell; have e_g2 := fun o => (g2.alloc o).free; try clear c_g3 f_g3 a_g3 d_g3 e_g3
  replace g3 := g3.below b; have c_g3 := g3.cell; have f_g3 := g3.free; have a_g3 := fun o => (g3.alloc o).cell; have d_g3 := fun o o2 => ((g3.alloc o).alloc o2).cell; have e_g3 := fun o => (g3.alloc o).free; replace B := B.trans (b.mono B.size); clear b
  go_wp2_with fail
  refine (FT.out _ (H.out.below B)).mono ?_
  rintro e wa3 ⟨rfl, b⟩
  try clear c_g1 f_g1 a_g1 d_g1 e_g1
  replace g1 := g1.below b; have c_g1 := g1.cell; have f_g1 := g1.free; have a_g1 := fun o => (g1.alloc o).cell; have d_g1 := fun o o2 => ((g1.alloc o).alloc o2).cell; have e_g1 := fun o => (g1.alloc o).free; try clear c_g2 f_g2 a_g2 d_g2 e_g2
  replace g2 := g2.below b; have c_g2 := g2.cell; have f_g2 := g2.free; have a_g2 := fun o => (g2.alloc o).cell; have d_g2 := fun o o2 => ((g2.alloc o).alloc o2).cell; have e_g2 := fun o => (g2.alloc o).free; try clear c_g3 f_g3 a_g3 d_g3 e_g3
  replace g3 := g3.below b; have c_g3 := g3.cell; have f_g3 := g3.free; have a_g3 := fun o => (g3.alloc o).cell; have d_g3 := fun o o2 => ((g3.alloc o).alloc o2).cell; have e_g3 := fun o => (g3.alloc o).free; replace B := B.trans (b.mono B.size); clear b
  go_upto_region 7 with (fail)
  have HG := Lib.hid (And.intro g1 (And.intro g2 (And.intro g3 B)))
  have hB := B.size
  clear c_g1 c_g2 f_g1 f_g2 a_g1 a_g2 d_g1 d_g2 e_g1 e_g2 c_g3 f_g3 a_g3 d_g3 e_g3
  refine wp_region_G (val := GMod.val) (V := fun g => OwnM g.W1 wa3.heap.size 48 g.t g.o g.s m ∧ Below wa3.heap.size wa3 g.W1)
    (F := fun g => FL [1, 9] (wsC wa3 (w.heap.size + 1 + 1) g) 1 2) [1, 1, 9] 1 ⟨undef, undef, undef, wa3⟩ 24 #[.agg #[tv, ov, sv]] (fun g => FL.dep) (by kernel_rfl) (by kernel_rfl) (by kernel_rfl) (fun g g' φ W hφ hF => FL.agree (Ws := wsC wa3 (w.heap.size + 1 + 1) g) (Ws' := wsC wa3 (w.heap.size + 1 + 1) g') (k0 := 1) rfl rfl hφ hF) FL.start (by decide) ?_ ?_
  · intro φ W hφ hF
    obtain ⟨rfl, _⟩ := FL.step (i := 0) rfl (by decide) hF hφ (by intro p hp; omega) (by omega)
    refine (CP.out wa3.drew (H.out.below B.drew)).mono ?_
    rintro e W1 ⟨t', o', s', rfl, om, b1⟩
    have b1' : Below wa3.heap.size wa3 W1 := (Below.refl _ wa3).drew.trans b1
    have hF' := FL.agree (Ws := wsC wa3 (w.heap.size + 1 + 1) ⟨undef, undef, undef, wa3⟩) (Ws' := wsC wa3 (w.heap.size + 1 + 1) ⟨t', o', s', W1⟩) (k0 := 1) rfl rfl hφ hF
    exact ⟨⟨t', o', s', W1⟩, ⟨om, b1'⟩, rfl, (FL.step (i := 0) rfl (by decide) hF' hφ (by intro p hp; omega) (by omega)).2⟩
  · rintro ⟨t', o', s', W1⟩ ⟨om, b1⟩
    dsimp only at om b1 ⊢
    obtain ⟨⟨tA, tn, tc, rfl⟩, ⟨oA, on, oc, rfl⟩, ⟨sA, sn, sc, rfl⟩⟩ := om.forms
    have r3 := g3.below b1
    have AL : ∀ d, d ≤ 2 → Below w.heap.size w (wsC wa3 (w.heap.size + 1 + 1) ⟨.slice tA tn tc, .slice oA on oc, .slice sA sn sc, W1⟩ d) ∧ Bx (wsC wa3 (w.heap.size + 1 + 1) ⟨.slice tA tn tc, .slice oA on oc, .slice sA sn sc, W1⟩ d) w.heap.size 26 #[tv, ov, sv] ∧ Bx (wsC wa3 (w.heap.size + 1 + 1) ⟨.slice tA tn tc, .slice oA on oc, .slice sA sn sc, W1⟩ d) (w.heap.size + 1) 50 #[.int .i64 k, .int .i64 g] := by
      intro d hd
      rcases d with _ | _ | d
      · exact ⟨B.drew, g1, g2⟩
      · exact ⟨B.trans (b1.mono hB), g1.below b1, g2.below b1⟩
      · refine ⟨?_, ?_, ?_⟩
        · exact (((B.trans (b1.mono hB)).setCell (p := ⟨w.heap.size + 1 + 1, 0, none⟩) (by simp; omega) _).setCell (p := ⟨w.heap.size + 1 + 1, 1, none⟩) (by simp; omega) _).setCell (p := ⟨w.heap.size + 1 + 1, 2, none⟩) (by simp; omega) _
        · exact (((g1.below b1).far (p := ⟨w.heap.size + 1 + 1, 0, none⟩) (by show _ ≠ w.heap.size + 1 + 1; omega) _).far (p := ⟨w.heap.size + 1 + 1, 1, none⟩) (by show _ ≠ w.heap.size + 1 + 1; omega) _).far (p := ⟨w.heap.size + 1 + 1, 2, none⟩) (by show _ ≠ w.heap.size + 1 + 1; omega) _
        · exact (((g2.below b1).far (p := ⟨w.heap.size + 1 + 1, 0, none⟩) (by show _ ≠ w.heap.size + 1 + 1; omega) _).far (p := ⟨w.heap.size + 1 + 1, 1, none⟩) (by show _ ≠ w.heap.size + 1 + 1; omega) _).far (p := ⟨w.heap.size + 1 + 1, 2, none⟩) (by show _ ≠ w.heap.size + 1 + 1; omega) _
    have AA := Lib.hid (fun x : FXN (FL [1, 9] (wsC wa3 (w.heap.size + 1 + 1) ⟨.slice tA tn tc, .slice oA on oc, .slice sA sn sc, W1⟩) 1 2) => FL.all (ks := [1, 9]) (Ws := wsC wa3 (w.heap.size + 1 + 1) ⟨.slice tA tn tc, .slice oA on oc, .slice sA sn sc, W1⟩) (p := fun W => Below w.heap.size w W ∧ Bx W w.heap.size 26 #[tv, ov, sv] ∧ Bx W (w.heap.size + 1) 50 #[.int .i64 k, .int .i64 g]) AL x)
    have ca := fun x : FXN (FL [1, 9] (wsC wa3 (w.heap.size + 1 + 1) ⟨.slice tA tn tc, .slice oA on oc, .slice sA sn sc, W1⟩) 1 2) => (AA.out x).2.1.cell
    have cb := fun x : FXN (FL [1, 9] (wsC wa3 (w.heap.size + 1 + 1) ⟨.slice tA tn tc, .slice oA on oc, .slice sA sn sc, W1⟩) 1 2) => (AA.out x).2.2.cell
    have cc := fun x : FXN (FL [1, 9] (wsC wa3 (w.heap.size + 1 + 1) ⟨.slice tA tn tc, .slice oA on oc, .slice sA sn sc, W1⟩) 1 2) => cell_later (AA.out x).1 m2
    haveI : Nonempty (FXN (FL [1, 9] (wsC wa3 (w.heap.size + 1 + 1) ⟨.slice tA tn tc, .slice oA on oc, .slice sA sn sc, W1⟩) 1 2)) := ⟨⟨_, _, FL.start⟩⟩
    refine wpG_read FL.dep rfl (by decide) (by decide) ?_; go_big_quiet_step (fail); refine wpQuiet_nil ?_
    refine wpG_call #[.agg #[tv, ov, sv]] rfl (by simp [Act.eval]) (enter_copied _) ?_
    simp only [Act.put, List.setIfInBounds_toArray, List.set_cons_zero, List.set_cons_succ]
    iterate 7 (refine wpG_read FL.dep rfl (by decide) (by decide) ?_; go_big_quiet_step (fail); refine wpQuiet_nil ?_)
    have c3 := r3.cell; have f3 := r3.free
    refine wpG_store FL.dep (by decide) rfl 26 (.tmp 4) (.tmp 23) rfl (by rfl) (p := .pointer (some ⟨w.heap.size + 1 + 1, 0, none⟩)) (u := .agg #[.slice tA tn tc, .slice oA on oc, .slice sA sn sc]) (by rfl) (by rfl) [1] (by kernel_rfl) (fun f W hF h0 h1 => ?_) ?_
    · obtain ⟨rfl, h2⟩ := FL.step (i := 1) rfl (by decide) hF h0 (FL.prev (p := 0) (q := 1) rfl (h1 1 (by simp))) (by omega)
      refine ⟨_, ?_, h2⟩
      simp [go_sem, wsC, c3, f3]
    simp only [Act.put, List.setIfInBounds_toArray, List.set_cons_zero, List.set_cons_succ]
    iterate 2 (refine wpG_read FL.dep rfl (by decide) (by decide) ?_; go_big_quiet_step (fail); refine wpQuiet_nil ?_)
    refine wpG_nil ?_
    intro w' hw'
    obtain rfl := FL.done hw'
    have HM := Lib.hid (OwnM.set3 (a := .slice tA tn tc) (b := .slice oA on oc) (c := .slice sA sn sc) (om.mono hB) r3)
    have BB := Lib.hid (AL 2 (Nat.le_refl _)).1
    have g3' : Bx ((((W1.setCell ⟨w.heap.size + 1 + 1, 0, none⟩ (.slice tA tn tc)).setCell ⟨w.heap.size + 1 + 1, 1, none⟩ (.slice oA on oc)).setCell ⟨w.heap.size + 1 + 1, 2, none⟩ (.slice sA sn sc))) (w.heap.size + 1 + 1) 26 #[.slice tA tn tc, .slice oA on oc, .slice sA sn sc] := by
      have := ((r3.set (i := 0) (.slice tA tn tc)).set (i := 1) (.slice oA on oc)).set (i := 2) (.slice sA sn sc)
      simpa using this
    have c3' := g3'.cell
    clear this ca cb cc c3 f3 AL AA om b1 g1 g2 g3 B r3 hw'
    show _
    generalize hW : (((W1.setCell ⟨w.heap.size + 1 + 1, 0, none⟩ (.slice tA tn tc)).setCell ⟨w.heap.size + 1 + 1, 1, none⟩ (.slice oA on oc)).setCell ⟨w.heap.size + 1 + 1, 2, none⟩ (.slice sA sn sc)) = W4 at c3' HM
    have hw4 : wsC wa3 (w.heap.size + 1 + 1) ⟨.slice tA tn tc, .slice oA on oc, .slice sA sn sc, W1⟩ [1, 9].length = W4 := hW
    rw [hw4]
    have BB2 := BB.out
    rw [show wsC wa3 (w.heap.size + 1 + 1) ⟨.slice tA tn tc, .slice oA on oc, .slice sA sn sc, W1⟩ 2 = W4 from hW] at BB2
    have BB3 := Lib.hid BB2
    clear hW hw4 BB BB2 g3'
    go_wp2
    refine bodyPost_ret (v := .tuple #[.agg #[.slice tA tn tc, .slice oA on oc, .slice sA sn sc], .int .i64 n', .int .i64 0]) (by simp [results, Try.results40, go_sem, c3']) rfl ?_
    exact ⟨_, _, _, rfl, HM.out, BB3.out⟩
end Go.Proofs.Yteejianjjpdimaa
