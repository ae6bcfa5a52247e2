/- Contracts of the functions that the laws 'R' reach, part 18. No condition. -/
import Derived.Test.YtmbokdnndlnjkaaGreatMRq
set_option linter.unusedVariables false
set_option linter.unusedSimpArgs false
namespace Go.Proofs.YtmbokdnndlnjkaaGreat
open Go Go.RowKit
section
variable {P : Program} {ops : Array Oper} {md : Region.Mode} {C : Array Bool → World → Prop} {nn : Nat → Bool} {x : Nat → Value} {T : Nat → Sem Next → Prop}
def wpAnyH (P : Program) (md : Region.Mode) (ops : Array Oper) (C : Array Bool → World → Prop) (nn : Nat → Bool) (x : Nat → Value) (T : Nat → Sem Next → Prop) (n : Nat) (L : Array Bool → Act → Prop) : Nat → Array Bool → Act → Prop
  | 0, listed, a => L listed a
  | f + 1, listed, a =>
    Region.ready md ops listed ≠ [] ∧ ∀ i ∈ Region.ready md ops listed, i < n ∧ qOpM P md ops C nn x T i (wpAnyH P md ops C nn x T n L f (listed.setIfInBounds i true)) a
theorem wpAnyH_first {n i : Nat} {oi : Oper} {v : Value} {L : Array Bool → Act → Prop} (hi : ops[i]? = some oi) (hsel : ∀ (j : Nat) (o : Oper) cs b, ops[j]? = some o → o.op ≠ .select cs b)
    (hs : Region.sinkB md ops n = true) (hc : Region.chainB md ops n = true) (hn : n < ops.size) (hin : i < n)
    (hdone : ∀ listed a, L listed a → ∀ j ∈ Region.ready md ops listed, n ≤ j) :
    ∀ (f : Nat) (listed : Array Bool) (a : Act), HeadInv md ops n listed →
      (∀ j oj, ops[j]? = some oj → j ≠ i → listed.getD j true = false → (∀ e ∈ oj.after, Region.binds md e = true → e.on ≠ i) → oi.apart ops oj = true) →
      i ∈ Region.ready md ops listed → YieldsM P md ops C nn x i oi v a ∧ (nn i = true → T i (execOp a.eval oi)) →
      wpAnyH P md ops C nn x T n L f (listed.setIfInBounds i true) (a.put oi.dst v) → wpAnyH P md ops C nn x T n L (f + 1) listed a := by
  intro f
  induction f with
  | zero =>
    intro listed a inv _ hr hy H
    have hun := (mem_ready.1 hr).1
    refine ⟨fun h => (by rw [h] at hr; cases hr), fun j hj => ?_⟩
    have hjn : j < n := by
      rcases Nat.lt_or_ge j n with h | h
      · exact h
      · exact absurd hj (tail_waits hs hc hn inv _ i rfl hin hun j h)
    refine ⟨hjn, ?_⟩
    by_cases hji : j = i
    · subst hji; unfold qOpM; simp only [hi]; exact ⟨v, hy, H⟩
    · have := hdone _ _ H j (ready_mono hj hji)
      omega
  | succ f ih =>
    intro listed a inv hfree hr hy H
    have hun := (mem_ready.1 hr).1
    refine ⟨fun h => (by rw [h] at hr; cases hr), fun j hj => ?_⟩
    have hjn : j < n := by
      rcases Nat.lt_or_ge j n with h | h
      · exact h
      · exact absurd hj (tail_waits hs hc hn inv _ i rfl hin hun j h)
    refine ⟨hjn, ?_⟩
    by_cases hji : j = i
    · subst hji; unfold qOpM; simp only [hi]; exact ⟨v, hy, H⟩
    · have h1 := (H.2 j (ready_mono hj hji)).2
      obtain ⟨hjun, oj, hoj, hall⟩ := mem_ready.1 hj
      have hnot : ∀ e ∈ oj.after, Region.binds md e = true → e.on ≠ i := fun e he hb heq => by
        have h1 := hall e he hb
        rw [heq, getD_both hun] at h1
        cases h1
      have h2 := qOpM_put hoj (hfree j oj hoj hji hjun hnot) (fun cs b => hsel i oi cs b hi) (fun cs b => hsel j oj cs b hoj) hy h1
      have hfree' : ∀ k ok, ops[k]? = some ok → k ≠ i → (listed.setIfInBounds j true).getD k true = false →
          (∀ e ∈ ok.after, Region.binds md e = true → e.on ≠ i) → oi.apart ops ok = true := fun k ok hk hki hun hno => by
        refine hfree k ok hk hki ?_ hno
        by_cases hjk : j = k
        · subst hjk; exact hjun
        · rw [getD_set_ne true hjk] at hun; exact hun
      refine qOpM_mono (fun a' h3 => ih (listed.setIfInBounds j true) a' (inv.set hj hjn) hfree' (ready_mono hr (Ne.symm hji)) h3.1 ?_) h2
      rw [Array.setIfInBounds_comm _ _ hji]
      exact h3.2
theorem wpAnyH_lex {n g : Nat} {Lq : Act → Prop} (hsel : Region.noSelect ops = true) (hs : Region.sinkB md ops n = true) (hc : Region.chainB md ops n = true) (hn : n < ops.size) :
    ∀ (l : List Oper) (k : Nat) (listed : Array Bool) (a : Act), (∀ j, j < l.length → l[j]? = ops[k + j]?) → k + l.length = n → HeadInv md ops n listed → (∀ j, j < k → listed.getD j false = true) →
    Region.lexHead md ops g l.length k listed = true → wpM P md ops C nn x T Lq l k a →
    wpAnyH P md ops C nn x T n (fun listed' a' => Region.seqB md ops g n listed' = true ∧ (∀ j, j < n → listed'.getD j false = true) ∧ Lq a') l.length listed a
  | [], k, listed, a, _, hk, _, hd, hB, h => by
    have : k = n := by simpa using hk
    subst this
    exact ⟨by simpa [Region.lexHead] using hB, hd, h⟩
  | o :: l, k, listed, a, hl, hk, inv, hd, hB, h => by
    have h0 : ops[k]? = some o := by simpa using (hl 0 (by simp)).symm
    simp only [List.length_cons, Region.lexHead, Bool.and_eq_true] at hB
    obtain ⟨⟨hr, hf⟩, hB'⟩ := hB
    have hkn : k < n := by simp only [List.length_cons] at hk; omega
    have hr' : k ∈ Region.ready md ops listed := by simpa using hr
    obtain ⟨v, hy, hK⟩ := h
    have hun := (mem_ready.1 hr').1
    exact wpAnyH_first h0 (Region.noSelect_spec hsel) hs hc hn hkn (fun listed' a' hL => seqB_ready hL.1) l.length listed a inv (Region.free_spec h0 hf) hr' hy
      (wpAnyH_lex hsel hs hc hn l (k + 1) _ _ (fun j hj => by have := hl (j + 1) (by simp; omega); simpa [Nat.add_assoc, Nat.add_comm 1 j] using this) (by simp only [List.length_cons] at hk; omega) (inv.set hr' hkn) (fun j hj => by
        by_cases hjk : j = k
        · subst hjk; exact (getD_on hun).2
        · rw [getD_set_ne false (Ne.symm hjk)]; exact hd j (by omega)) hB' hK)
theorem wpAny_of_H {G : Type} {val : G → Nat → Value} {V : G → Prop} {Ag : Array Bool → G → G → Prop} {Cg : G → Array Bool → World → Prop} {Tg : G → Nat → Sem Next → Prop} {Q' : Exit → Act → World → Prop} {n gt : Nat} {L : G → Array Bool → Act → Prop}
    (hL : ∀ g l a w, Cg g l w → L g l a → wpAny P md ops Q' gt l a w)
    (hrf : ∀ (l : Array Bool) g, Ag l g g) (htr : ∀ (l : Array Bool) g g' g'', Ag l g g' → Ag l g' g'' → Ag l g g'') (hmn : ∀ (l : Array Bool) i g g', Ag (l.setIfInBounds i true) g g' → l.getD i true = false → Ag l g g')
    (hvl : ∀ (l : Array Bool) i g g', nn i = true → l.getD i true = false → Ag (l.setIfInBounds i true) g g' → val g i = val g' i) (hag : ∀ (l : Array Bool) g g' w, Ag l g g' → Cg g l w → Cg g' l w)
    (hT : ∀ i s (l : Array Bool) w g, nn i = true → Tg g i s → V g → i ∈ Region.ready md ops l → Cg g l w → uponN P (fun v w' => ∃ g', V g' ∧ Ag l g g' ∧ v = val g' i ∧ Cg g' (l.setIfInBounds i true) w') (s.run P w)) :
    ∀ (fuel : Nat) (l : Array Bool) (a : Act) (w : World) (g0 : G), V g0 → Cg g0 l w →
    (∀ g, V g → Ag l g0 g → wpAnyH P md ops (Cg g) nn (val g) (Tg g) n (L g) fuel l a) → wpAny P md ops Q' (fuel + gt) l a w
  | 0, l, a, w, g0, hg0, hC, h => by rw [Nat.zero_add]; exact hL g0 l a w hC (h g0 hg0 (hrf _ _))
  | fuel + 1, l, a, w, g0, hg0, hC, h => by
    rw [show fuel + 1 + gt = (fuel + gt) + 1 by omega]
    refine ⟨fun h0 => absurd h0 (h g0 hg0 (hrf _ _)).1, fun i hi => ?_⟩
    have hun := (mem_ready.1 hi).1
    have h1 := ((h g0 hg0 (hrf _ _)).2 i hi).2
    unfold qOpM at h1
    unfold wpOp
    split
    · rename_i ho; simp only [ho] at h1
    · rename_i o ho
      simp only [ho] at h1
      obtain ⟨v, ⟨h2, hT0⟩, h3⟩ := h1
      have next : nn i = true → ∀ g', V g' → Ag l g0 g' → ∀ w', Cg g' (l.setIfInBounds i true) w' → wpAny P md ops Q' (fuel + gt) (l.setIfInBounds i true) (a.put o.dst (val g' i)) w' := by
        intro hn g' hg' hA w' hC'
        refine wpAny_of_H (n := n) hL hrf htr hmn hvl hag hT fuel _ _ w' g' hg' hC' fun g hg hA2 => ?_
        have h4 := ((h g hg (htr _ _ _ _ hA (hmn _ _ _ _ hA2 hun))).2 i hi).2
        unfold qOpM at h4
        simp only [ho] at h4
        obtain ⟨v', ⟨h5, _⟩, h6⟩ := h4
        rcases h5 with ⟨_, e5, _⟩ | ⟨hne, _⟩
        · rw [hvl _ _ _ _ hn hun hA2, ← e5]; exact h6
        · rw [hn] at hne; cases hne
      rcases h2 with ⟨hn, hv, hw⟩ | ⟨hn, h2⟩
      · rw [if_pos hw]
        left
        have h5 := hT i _ l w g0 hn (hT0 hn) hg0 hi hC
        unfold Oper.wp
        generalize (execOp a.eval o).run P w = r at *
        cases r with
        | ok n w' =>
          cases n <;> simp only [uponN] at h5 <;> simp only [Oper.upon]
          case value u => obtain ⟨g', e1, e2, rfl, e4⟩ := h5; exact next hn g' e1 e2 _ e4
          case enter f args =>
            refine h5.mono fun e w'' ⟨u, he, g', e1, e2, e3, e4⟩ => ?_
            subst he; subst e3
            exact next hn g' e1 e2 _ e4
        | halt y w' => simp only [uponN] at h5
      · have hval : ∀ g, V g → Ag (l.setIfInBounds i true) g0 g → wpAnyH P md ops (Cg g) nn (val g) (Tg g) n (L g) fuel (l.setIfInBounds i true) (a.put o.dst v) := by
          intro g hg hA2
          have hA := hmn _ _ _ _ hA2 hun
          have h4 := ((h g hg hA).2 i hi).2
          unfold qOpM at h4
          simp only [ho] at h4
          obtain ⟨v', ⟨h5, _⟩, h6⟩ := h4
          rcases h5 with ⟨e, _⟩ | ⟨_, h5⟩
          · rw [hn] at e; cases e
          · have hvv : v = v' := by
              rcases h2 with ⟨hw, ha⟩ | ⟨hw, rfl, _⟩
              · rcases h5 with ⟨_, hb⟩ | ⟨hw', _⟩
                · exact uponV_val (ha l w hi hC) (hb l w hi (hag _ _ _ _ hA hC))
                · rw [hw] at hw'; cases hw'
              · rcases h5 with ⟨hw', _⟩ | ⟨_, e, _⟩
                · rw [hw] at hw'; cases hw'
                · exact e.symm
            rw [hvv]; exact h6
        rcases h2 with ⟨hw, ha⟩ | ⟨hw, rfl, hv⟩
        · rw [if_pos hw]
          left
          have h5 := ha l w hi hC
          unfold Oper.wp
          generalize (execOp a.eval o).run P w = r at *
          cases r with
          | ok n w' =>
            cases n <;> simp only [uponV] at h5 <;> simp only [Oper.upon]
            case value u => obtain ⟨e1, e2⟩ := h5; rw [e1]; exact wpAny_of_H (n := n) hL hrf htr hmn hvl hag hT fuel _ _ w' g0 hg0 e2 hval
            case skip => obtain ⟨e1, e2⟩ := h5; rw [← e1]; exact wpAny_of_H (n := n) hL hrf htr hmn hvl hag hT fuel _ _ w' g0 hg0 e2 hval
          | halt y w' => simp only [uponV] at h5
        · rw [if_neg (by rw [hw]; exact Bool.false_ne_true)]
          exact wpAny_of_H (n := n) hL hrf htr hmn hvl hag hT fuel _ _ w g0 hg0 (hv l w hi hC) hval
end
/-- a world behind w, of which p holds besides -/
structure FutP (w : World) (p : World → Prop) where
  W : World
  h : Below w.heap.size w W
  hp : p W
/-- what holds at the head: no old block is changed; of the operations ns that are done, what is known of their values -/
def CH (w : World) (ns : List Nat) (dep : Nat → List Nat) (Φ : Nat → (Nat → Value) → World → Prop) (g : Nat → Value) : Array Bool → World → Prop := fun listed W =>
  Below w.heap.size w W ∧ ∀ k ∈ ns, listed.getD k false = true → Φ k g W ∧ ∀ j ∈ dep k, listed.getD j false = true
section
variable {P : Program} {ops : Array Oper} {rest : List Oper} {o : Oper} {a : Act} {Q : Act → Prop} {k : Nat} {md : Region.Mode} {T : Nat → Sem Next → Prop} {w : World} {ns : List Nat} {dep : Nat → List Nat} {Φ : Nat → (Nat → Value) → World → Prop} {g : Nat → Value}
theorem wpH_nil {C : Array Bool → World → Prop} {nn : Nat → Bool} {x : Nat → Value} (h : Q a) : wpM P md ops C nn x T Q [] k a := h
/-- an operation that only reads what was there before -/
theorem wpH_read0 (hV : isV o.op = true) (hn : (ns.contains k) = false)
    (h : wpQuiet P ops (fun W => ∃ x : Fut w, W = x.W) (fun a' => wpM P md ops (CH w ns dep Φ g) (fun i => ns.contains i) g T Q rest (k + 1) a') [o] a) : wpM P md ops (CH w ns dep Φ g) (fun i => ns.contains i) g T Q (o :: rest) k a := by
  have skip : ∀ {listed : Array Bool} {W : World}, CH w ns dep Φ g listed W → CH w ns dep Φ g (listed.setIfInBounds k true) W := fun {listed W} hW => by
    refine ⟨hW.1, fun j hj hl => ?_⟩
    have hjk : k ≠ j := fun e => by subst e; rw [List.contains_iff_mem.2 hj] at hn; cases hn
    rw [getD_set_ne false hjk] at hl
    obtain ⟨h1, h2⟩ := hW.2 j hj hl
    exact ⟨h1, fun i hi => getD_set_true (h2 i hi)⟩
  unfold wpQuiet at h
  split at h
  · rename_i hw
    obtain ⟨v, h1, h2⟩ := h
    refine ⟨v, ⟨.inr ⟨hn, .inl ⟨hw, fun listed W hl hW => ?_⟩⟩, fun e => (by have e' : ns.contains k = true := e; rw [hn] at e'; cases e')⟩, h2⟩
    have h3 := h1 W ⟨⟨W, hW.1⟩, rfl⟩
    unfold Oper.quietAt at h3
    cases hr : (execOp a.eval o).run P W with
    | ok n w' =>
      obtain ⟨u, rfl⟩ := isV_value hV hr
      rw [hr] at h3
      simp only [Oper.quietUpon] at h3
      simp only [uponV]
      obtain ⟨e1, e2⟩ := h3
      subst e1
      exact ⟨e2, skip hW⟩
    | halt x w' => rw [hr] at h3; simp only [Oper.quietUpon] at h3
  · rename_i hw
    exact ⟨undef, ⟨.inr ⟨hn, .inr ⟨by simpa using hw, rfl, fun listed W hl hW => skip hW⟩⟩, fun e => (by have e' : ns.contains k = true := e; rw [hn] at e'; cases e')⟩, h⟩
/-- an operation that makes fresh memory -/
theorem wpH_new (hn : ns.contains k = true) (hw : Region.wanted o (yielded ops a.tmps) = true) (hT : T k (execOp a.eval o)) (h : wpM P md ops (CH w ns dep Φ g) (fun i => ns.contains i) g T Q rest (k + 1) (a.put o.dst (g k))) : wpM P md ops (CH w ns dep Φ g) (fun i => ns.contains i) g T Q (o :: rest) k a :=
  ⟨g k, ⟨.inl ⟨hn, rfl, hw⟩, fun _ => hT⟩, h⟩
end
/-- what a fresh operation does: no old block is changed; its value is of the shape V, and Φ is known of it -/
def TS (P : Program) (w : World) (dep : Nat → List Nat) (V : Nat → Value → Prop) (Φ : Nat → (Nat → Value) → World → Prop) (g : Nat → Value) (k : Nat) (s : Sem Next) : Prop :=
  ∀ W, Below w.heap.size w W → (∀ j ∈ dep k, Φ j g W) → uponN P (fun v W' => V k v ∧ Below W.heap.size W W' ∧ ∀ g', g' k = v → (∀ j ∈ dep k, g' j = g j) → Φ k g' W') (s.run P W)
section
variable {P : Program} {w : World} {dep : Nat → List Nat} {V : Nat → Value → Prop} {Φ : Nat → (Nat → Value) → World → Prop} {g : Nat → Value} {k : Nat} {o : Oper} {a : Act}
/-- a call -/
theorem TS.call {f : FuncId} {xs : Array Operand} {ats : Array TypeId} {dst : Option Tmp} {ty : TypeId} {pos : String} {after : Array Edge} {gd : Option (Nat × Bool)} {av : Array Value} (hav : xs.map a.eval = av) (hf : ∀ W, (callFunc f (#[] ++ av ++ #[])).run P W = .ok (.enter f av) W)
    (h : ∀ W, Below w.heap.size w W → (∀ j ∈ dep k, Φ j g W) → Calls P f av W fun e W' => ∃ v, e = .returned v ∧ V k v ∧ Below W.heap.size W W' ∧ ∀ g', g' k = v → (∀ j ∈ dep k, g' j = g j) → Φ k g' W') :
    TS P w dep V Φ g k (execOp a.eval ⟨dst, .call ⟨.value (.func f), xs, ats⟩, ty, pos, after, gd⟩) := by
  intro W hW hd
  rw [execOp_call_go, hav, hf]
  exact h W hW hd
/-- what yields a value -/
theorem TS.val {s : Sem Next} (h : ∀ W, Below w.heap.size w W → (∀ j ∈ dep k, Φ j g W) → ∃ v W', s.run P W = .ok (.value v) W' ∧ V k v ∧ Below W.heap.size W W' ∧ ∀ g', g' k = v → (∀ j ∈ dep k, g' j = g j) → Φ k g' W') : TS P w dep V Φ g k s := by
  intro W hW hd
  obtain ⟨v, W', h1, h2⟩ := h W hW hd
  rw [h1]; exact h2
/-- a slice is made -/
theorem TS.make {t : TypeId} {l c : Operand} (ho : o.op = .makeSlice t l c) {lv cv : Value} (hl : a.eval l = lv) (hc : a.eval c = cv)
    (h : ∀ W, Below w.heap.size w W → (∀ j ∈ dep k, Φ j g W) → ∃ v W', (Instr.makeSlice t lv cv).run P W = .ok v W' ∧ V k v ∧ Below W.heap.size W W' ∧ ∀ g', g' k = v → (∀ j ∈ dep k, g' j = g j) → Φ k g' W') : TS P w dep V Φ g k (execOp a.eval o) := by
  refine TS.val fun W hW hd => ?_
  obtain ⟨v, W', h1, h2⟩ := h W hW hd
  refine ⟨v, W', ?_, h2⟩
  simp [execOp, ho, hl, hc, h1]
/-- what is run for a value -/
theorem TS.sem {s : Sem Value} (hs : execOp a.eval o = (do pure (Next.value (← s)))) (h : ∀ W, Below w.heap.size w W → (∀ j ∈ dep k, Φ j g W) → ∃ v W', s.run P W = .ok v W' ∧ V k v ∧ Below W.heap.size W W' ∧ ∀ g', g' k = v → (∀ j ∈ dep k, g' j = g j) → Φ k g' W') : TS P w dep V Φ g k (execOp a.eval o) := by
  refine TS.val fun W hW hd => ?_
  obtain ⟨v, W', h1, h2⟩ := h W hW hd
  refine ⟨v, W', ?_, h2⟩
  rw [hs, Sem.run_bind, h1]; rfl
end
/-- the region: the first n are the head; ns those that make fresh memory; dep which of these each of them waits for; Φ what is known of their values; T what they run -/
theorem wp_region_ftail {P : Program} {id : Nat} {Q : Exit → Act → World → Prop} {a : Act} {w : World} {l : List Oper} (n : Nat) (ns : List Nat) (dep : Nat → List Nat) (V : Nat → Value → Prop) (Φ : Nat → (Nat → Value) → World → Prop)
    (hm : P.follows .mixedOrders = true) (hB : Region.lexTailB .any l.toArray n = true)
    (hnj : (ns.all fun k => decide (k < n) && match l.toArray[k]? with | some o => (dep k).all (fun j => ns.contains j && o.after.any fun e => Region.binds .any e && e.on == j) | none => false) = true)
    (hst : ∀ k ∈ ns, ∀ g W W', Φ k g W → Below W.heap.size W W' → Φ k g W')
    (hdp : ∀ k ∈ ns, ∀ g g' W, (∀ j, (j = k ∨ j ∈ dep k) → g j = g' j) → Φ k g W → Φ k g' W)
    (hV0 : ∀ k ∈ ns, ∃ v, V k v)
    (h : ∀ g, (∀ k ∈ ns, V k (g k)) → wpM P .any l.toArray (CH w ns dep Φ g) (fun i => ns.contains i) g (TS P w dep V Φ g) (fun a' => ∀ W, Below w.heap.size w W → (∀ k ∈ ns, Φ k g W) → wpList P l.toArray Q (l.drop n) a' W) (l.take n) 0 a) : (Code.region id l.toArray true).wp P Q a w := by
  simp only [Region.lexTailB, Bool.and_eq_true, decide_eq_true_eq] at hB
  obtain ⟨⟨⟨⟨hsel, hn⟩, hs⟩, hc⟩, hlex⟩ := hB
  have hn' : n < l.length := by simpa using hn
  have htl : (l.take n).length = n := by simp; omega
  have hdl : (l.drop n).length = l.toArray.size - n := by simp
  have inv0 : HeadInv .any l.toArray n (Array.replicate l.toArray.size false) :=
    ⟨by simp, fun j oj _ hl => (by rw [getD_replicate_false] at hl; cases hl), fun t _ ht => getD_in (by simpa using ht) (getD_replicate_false _ _)⟩
  have H := fun g hg => wpAnyH_lex (md := .any) (g := l.toArray.size - n) hsel hs hc hn (l.take n) 0 _ a (fun j hj => by
    have hj' : j < n := by rw [htl] at hj; exact hj
    simp [hj']) (by simpa using htl) inv0 (fun j hj => by omega) (by rw [htl]; exact hlex) (h g hg)
  have un : ∀ {listed : Array Bool} {i : Nat}, listed.getD i true = false → listed.getD i false = false := fun {listed i} h1 => getD_both h1
  obtain ⟨g0, hg0⟩ : ∃ g0 : Nat → Value, ∀ k ∈ ns, V k (g0 k) := by
    have h1 : ∀ k, ∃ v, k ∈ ns → V k v := fun k => by
      by_cases hk : k ∈ ns
      · obtain ⟨v, hv⟩ := hV0 k hk; exact ⟨v, fun _ => hv⟩
      · exact ⟨undef, fun h => absurd h hk⟩
    obtain ⟨f, hf⟩ := Classical.axiomOfChoice h1
    exact ⟨f, hf⟩
  refine wp_region_any hm ?_
  have := wpAny_of_H (P := P) (md := .any) (ops := l.toArray) (Q' := Q) (gt := l.toArray.size - n) (n := n) (nn := fun i => ns.contains i) (G := Nat → Value) (val := fun g => g) (V := fun g => ∀ k ∈ ns, V k (g k))
    (Ag := fun listed g g' => ∀ k ∈ ns, listed.getD k false = true → g k = g' k) (Cg := CH w ns dep Φ) (Tg := TS P w dep V Φ)
    (L := fun g listed' a' => Region.seqB .any l.toArray (l.toArray.size - n) n listed' = true ∧ (∀ j, j < n → listed'.getD j false = true) ∧ ∀ W, Below w.heap.size w W → (∀ k ∈ ns, Φ k g W) → wpList P l.toArray Q (l.drop n) a' W)
    (fun g listed a' W hC hL => by
      obtain ⟨h1, h2, h3⟩ := hL
      have hlt : ∀ k ∈ ns, k < n := fun k hk => by
        have := List.all_eq_true.1 hnj k hk
        simp only [Bool.and_eq_true, decide_eq_true_eq] at this
        exact this.1
      have := wpAny_of_seq (md := .any) (Q' := Q) (l.drop n) n listed a' W (fun j => by simp [List.getElem?_drop]) (by rw [hdl]; exact h1) (h3 W hC.1 (fun k hk => (hC.2 k hk (h2 k (hlt k hk))).1))
      rwa [hdl] at this)
    (fun _ _ _ _ _ => rfl) (fun l g g' g'' h1 h2 k hk hl => (h1 k hk hl).trans (h2 k hk hl))
    (fun listed i g g' h1 h2 k hk hl => h1 k hk (getD_set_true hl))
    (fun listed i g g' hi h1 h2 => h2 i (List.contains_iff_mem.1 hi) (getD_on h1).2)
    (fun listed g g' W hA hC => ⟨hC.1, fun k hk hl => ⟨hdp k hk g g' W (fun j hj => by
      rcases hj with rfl | hj
      · exact hA j hk hl
      · have hdj := List.all_eq_true.1 hnj k hk
        simp only [Bool.and_eq_true] at hdj
        have h2 := (hC.2 k hk hl).2 j hj
        cases ho : l.toArray[k]? with
        | none => rw [ho] at hdj; cases hdj.2
        | some o =>
          have h3 := hdj.2
          simp only [ho] at h3
          have h4 := List.all_eq_true.1 h3 j hj
          simp only [Bool.and_eq_true] at h4
          exact hA j (List.contains_iff_mem.1 h4.1) h2) (hC.2 k hk hl).1, (hC.2 k hk hl).2⟩⟩)
    (fun i s listed W g hi hTs hg hr hC => by
      have hin : i ∈ ns := List.contains_iff_mem.1 hi
      have hun := (mem_ready.1 hr).1
      have hdj := List.all_eq_true.1 hnj i hin
      simp only [Bool.and_eq_true] at hdj
      obtain ⟨o, ho, _⟩ := (mem_ready.1 hr).2
      have h3 := hdj.2
      simp only [ho] at h3
      have hdeps : ∀ j ∈ dep i, j ∈ ns ∧ listed.getD j false = true := fun j hj => by
        have h4 := List.all_eq_true.1 h3 j hj
        simp only [Bool.and_eq_true] at h4
        exact ⟨List.contains_iff_mem.1 h4.1, ready_after ho h4.2 hr⟩
      have h5 := hTs W hC.1 (fun j hj => (hC.2 j (hdeps j hj).1 (hdeps j hj).2).1)
      refine uponN_mono (fun v W' ⟨e0, e1, e2⟩ => ?_) h5
      refine ⟨fun j => if j = i then v else g j, fun k hk => ?_, fun k hk hl => ?_, by simp, hC.1.trans (e1.mono hC.1.size), fun k hk hl => ?_⟩
      · by_cases hki : k = i
        · subst hki; simpa using e0
        · simpa [hki] using hg k hk
      · have hki : k ≠ i := fun e => by subst e; rw [un hun] at hl; cases hl
        simp [hki]
      · by_cases hki : k = i
        · subst hki
          refine ⟨e2 _ (by simp) (fun j hj => ?_), fun j hj => getD_set_true (hdeps j hj).2⟩
          have hjk : j ≠ k := fun e => by subst e; have := (hdeps j hj).2; rw [un hun] at this; cases this
          simp [hjk]
        · rw [getD_set_ne false (Ne.symm hki)] at hl
          obtain ⟨f1, f2⟩ := hC.2 k hk hl
          refine ⟨hdp k hk g _ W' (fun j hj => ?_) (hst k hk g W W' f1 e1), fun j hj => getD_set_true (f2 j hj)⟩
          have hji : j ≠ i := fun e => by
            subst e
            rcases hj with e | hj
            · exact hki e.symm
            · have := f2 j hj; rw [un hun] at this; cases this
          simp [hji])
    _ _ a (World.drew w) g0 hg0 ⟨(Below.refl _ _).drew, fun k hk hl => by rw [getD_replicate_false] at hl; cases hl⟩ (fun g hg _ => H g hg)
  rw [htl, show n + (l.toArray.size - n) = l.toArray.size by omega] at this
  exact this
/-- the same with one fresh operation, which makes one block -/
def ΦB (b k0 : Nat) (mk : Nat → Value) (t : TypeId) (cs : Array Value) (k : Nat) (g : Nat → Value) (W : World) : Prop := k = k0 → ∃ p, g k0 = mk p ∧ Bx W p t cs ∧ b ≤ p
def VB (mk : Nat → Value) (_k : Nat) (v : Value) : Prop := ∃ p, v = mk p
theorem TS.block {P : Program} {w : World} {mk : Nat → Value} {t : TypeId} {cs : Array Value} {g : Nat → Value} {k0 : Nat} {o : Oper} {a : Act} (s : Sem Value) (hs : execOp a.eval o = (do pure (Next.value (← s)))) (hr : ∀ W, s.run P W = .ok (mk W.heap.size) (W.alloc (.cells cs t))) :
    TS P w (fun _ => []) (VB mk) (ΦB w.heap.size k0 mk t cs) g k0 (execOp a.eval o) :=
  TS.sem hs fun W hW _ => ⟨_, _, hr W, ⟨_, rfl⟩, (Below.refl _ _).alloc (Nat.le_refl _) _, fun g' hg' _ _ => ⟨_, hg', Bx.new _ _ _, hW.size⟩⟩
theorem wp_region_fblock {P : Program} {id : Nat} {Q : Exit → Act → World → Prop} {a : Act} {w : World} {l : List Oper} (n k0 : Nat) (mk : Nat → Value) (t : TypeId) (cs : Array Value) (hmk : ∀ p q, mk p = mk q → p = q)
    (hm : P.follows .mixedOrders = true) (hB : Region.lexTailB .any l.toArray n = true)
    (hnj : (([k0] : List Nat).all fun k => decide (k < n) && match l.toArray[k]? with | some o => (([] : List Nat)).all (fun j => ([k0] : List Nat).contains j && o.after.any fun e => Region.binds .any e && e.on == j) | none => false) = true)
    (h : ∀ g p, g k0 = mk p → wpM P .any l.toArray (CH w [k0] (fun _ => []) (ΦB w.heap.size k0 mk t cs) g) (fun i => ([k0] : List Nat).contains i) g (TS P w (fun _ => []) (VB mk) (ΦB w.heap.size k0 mk t cs) g)
      (fun a' => ∀ W, Below w.heap.size w W → Bx W p t cs → w.heap.size ≤ p → wpList P l.toArray Q (l.drop n) a' W) (l.take n) 0 a) : (Code.region id l.toArray true).wp P Q a w := by
  refine wp_region_ftail n [k0] (fun _ => []) (VB mk) (ΦB w.heap.size k0 mk t cs) hm hB hnj ?_ ?_ ?_ ?_
  · intro k hk g W W' h hb e
    obtain ⟨p, a1, a2, a3⟩ := h e
    exact ⟨p, a1, a2.below hb, a3⟩
  · intro k hk g g' W he h e
    obtain ⟨p, a1, a2, a3⟩ := h e
    subst e
    exact ⟨p, by rw [← he k (.inl rfl)]; exact a1, a2, a3⟩
  · intro k _; exact ⟨mk 0, 0, rfl⟩
  · intro g hV
    obtain ⟨p, hp⟩ := hV k0 (by simp)
    have h1 := h g p hp
    have mono : ∀ (r : List Oper) (k : Nat) (a' : Act), wpM P .any l.toArray (CH w [k0] (fun _ => []) (ΦB w.heap.size k0 mk t cs) g) (fun i => ([k0] : List Nat).contains i) g (TS P w (fun _ => []) (VB mk) (ΦB w.heap.size k0 mk t cs) g)
        (fun a' => ∀ W, Below w.heap.size w W → Bx W p t cs → w.heap.size ≤ p → wpList P l.toArray Q (l.drop n) a' W) r k a' → wpM P .any l.toArray (CH w [k0] (fun _ => []) (ΦB w.heap.size k0 mk t cs) g) (fun i => ([k0] : List Nat).contains i) g (TS P w (fun _ => []) (VB mk) (ΦB w.heap.size k0 mk t cs) g)
        (fun a' => ∀ W, Below w.heap.size w W → (∀ k ∈ [k0], ΦB w.heap.size k0 mk t cs k g W) → wpList P l.toArray Q (l.drop n) a' W) r k a' := by
      intro r
      induction r with
      | nil =>
        intro k a' h0 W hW hΦ
        obtain ⟨q, b1, b2, b3⟩ := hΦ k0 (by simp) rfl
        obtain rfl := hmk _ _ (hp.symm.trans b1)
        exact h0 W hW b2 b3
      | cons o r ih => intro k a' h0; obtain ⟨v, h1, h2⟩ := h0; exact ⟨v, h1, ih _ _ h2⟩
    exact mono _ _ _ h1
theorem mk_ptr (p q : Nat) (h : Value.pointer (some ⟨p, 0, none⟩) = Value.pointer (some ⟨q, 0, none⟩)) : p = q := by
  injection h with h; injection h with h; injection h with h
end Go.Proofs.YtmbokdnndlnjkaaGreat
namespace Go.Proofs.YtmbokdnndlnjkaaGreat
open Go.RowKit L01 L02 L05 L06 L07 L13 L14 L15 L18 L19 L20
end Go.Proofs.YtmbokdnndlnjkaaGreat
namespace Go.Proofs.YtmbokdnndlnjkaaGreat.L20
open L02 L13 L18
theorem zeros_get (n i : Nat) : (List.replicate n (0 : UInt64)).getD i 0 = 0 := by
  rw [List.getD_eq_getElem?_getD, List.getElem?_replicate]; split <;> rfl
/-- what is known of an object that was allocated -/
structure Alld (m : Mo) (t : Int) (k : Nat) (g0 : Int) : Prop where
  hc : chk m = 0
  ht : 0 ≤ t ∧ t < m.types.length
  hn : m.objs.length < 960
  hk : k < 16
  hs : m.slots[k]? = some ⟨g0, false, 0⟩
  hg : 0 ≤ g0 ∧ g0 < 2147483647
  hM : allM m t = ⟨m.types, m.objs ++ [newO m t], m.slots.set k ⟨g0 + 1, true, m.objs.length⟩⟩
  hS : allS m t = k
  hG : allG m t = g0 + 1
theorem Alld.of {m : Mo} {t : Int} (h : allE m t = 0) : ∃ k g0, Alld m t k g0 := by
  have h' := h
  unfold allE at h
  split at h
  · rename_i hc
    obtain ⟨h8, h960, h16, hty, hobs, hsl⟩ := chk_ok hc
    split at h
    · rename_i ht
      split at h
      · omega
      · rename_i hnx
        split at h
        · omega
        · rename_i hl
          obtain ⟨k, hk⟩ := Option.ne_none_iff_exists'.1 hnx
          obtain ⟨_, ⟨s, hs, hu, hg1⟩, _⟩ := nextFrom_some hk
          rw [Nat.sub_zero] at hs
          have hkl : k < 16 := by have := (List.getElem?_eq_some_iff.1 hs).1; omega
          have hsk := hsl s (List.mem_of_getElem? hs)
          obtain ⟨g0, u, a⟩ := s
          dsimp only at hu hg1
          subst hu
          obtain rfl : a = 0 := hsk.2.1 rfl
          have hgd : m.slots.getD k .none = ⟨g0, false, 0⟩ := by rw [List.getD_eq_getElem?_getD, hs]; rfl
          have hg2 := hsk.1
          dsimp only at hg2
          refine ⟨k, g0, hc, ht, by omega, hkl, hs, by omega, ?_, ?_, ?_⟩
          · rw [allM, if_pos h', hk, Option.getD_some, givS, hgd]
          · rw [allS, if_pos h', hk, Option.getD_some]
          · rw [allG, if_pos h', hk, Option.getD_some, hgd]
    · omega
  · omega
section
variable {m : Mo} {t : Int} {k : Nat} {g0 : Int} (h : Alld m t k g0)
include h
/-- the new model -/
theorem Alld.slot : (m.slots.set k ⟨g0 + 1, true, m.objs.length⟩)[k]? = some ⟨g0 + 1, true, m.objs.length⟩ := by
  have h1 := (List.getElem?_eq_some_iff.1 h.hs).1
  rw [List.getElem?_set_self h1]
theorem Alld.ok : chk (allM m t) = 0 := by
  obtain ⟨h8, h960, h16, hty, hobs, hsl⟩ := chk_ok h.hc
  have hn := h.hn
  rw [h.hM]
  refine chk_zero (by simp; omega) ⟨by simpa using h16, hty, fun o ho => ?_, fun s hs => ?_⟩
  · rcases List.mem_append.1 ho with ho | ho
    · obtain ⟨a1, a2, a3⟩ := hobs o ho
      refine ⟨a1, a2, fun i hi => ?_⟩
      obtain ⟨b1, b2⟩ := a3 i hi
      exact ⟨b1, fun e => Nat.le_trans (b2 e) (by simp)⟩
    · rw [List.mem_singleton] at ho
      subst ho
      have ht := h.ht
      refine ⟨ht, by simp [newO, ty], fun i hi => ?_⟩
      simp only [newO, zeros_get]
      exact ⟨fun _ => by decide, fun _ => by simp⟩
  · rcases List.mem_or_eq_of_mem_set hs with hs | hs
    · obtain ⟨a1, a2, a3⟩ := hsl s hs
      exact ⟨a1, a2, fun e => by have := a3 e; simp; omega⟩
    · subst hs
      have := h.hg
      refine ⟨?_, ?_, ?_⟩
      · dsimp only; omega
      · intro e; cases e
      · intro _; simp; omega
theorem Alld.len : (allM m t).objs.length = m.objs.length + 1 := by rw [h.hM]; simp
theorem Alld.right : rightErr (allM m t).slots k (g0 + 1) = 0 := by
  have hk := h.hk
  have hs := h.slot
  have h16 := (chk_ok h.hc).2.2.1
  have hgd : (m.slots.set k ⟨g0 + 1, true, m.objs.length⟩).getD k .none = ⟨g0 + 1, true, m.objs.length⟩ := by rw [List.getD_eq_getElem?_getD, hs]; rfl
  rw [h.hM, rightErr, if_pos (by simp; omega), if_pos]
  rw [Int.toNat_natCast, hgd]
  exact ⟨rfl, rfl⟩
theorem Alld.own : own (allM m t) k = m.objs.length := by
  rw [L20.own, Int.toNat_natCast, h.hM, List.getD_eq_getElem?_getD, h.slot]; simp
theorem Alld.idle : ¬ Busy (allM m t) k m.objs.length := by
  obtain ⟨h8, h960, h16, hty, hobs, hsl⟩ := chk_ok h.hc
  rw [h.hM]
  rintro (⟨i, hi, hne, hu, ha⟩ | ⟨i, hi, hne, j, hj, hr⟩)
  · have hik : k ≠ i := fun e => hne (by rw [e])
    have hi' : i < m.slots.length := by simpa using hi
    have e : (m.slots.set k ⟨g0 + 1, true, m.objs.length⟩).getD i .none = m.slots[i] := by
      rw [List.getD_eq_getElem?_getD, List.getElem?_set_ne hik, List.getElem?_eq_getElem hi']; rfl
    dsimp only at hu ha
    rw [e] at hu ha
    have := (hsl _ (List.getElem_mem hi')).2.2 hu
    omega
  · have hi' : i < m.objs.length := by simp at hi; omega
    have e : ob ⟨m.types, m.objs ++ [newO m t], m.slots.set k ⟨g0 + 1, true, m.objs.length⟩⟩ i = m.objs[i] := by
      simp [ob, List.getD_eq_getElem?_getD, List.getElem?_append_left hi', List.getElem?_eq_getElem hi']
    rw [e] at hj hr
    have := ((hobs _ (List.getElem_mem hi')).2.2 j hj).2 hr.1
    have h2 := hr.2
    omega
theorem Alld.asked : asked (allM m t) k (g0 + 1) = 0 := by rw [L20.asked, if_pos h.ok, h.right]
theorem Alld.free : freeE (allM m t) k (g0 + 1) = 0 := by rw [freeE, if_pos h.asked, h.own, if_neg h.idle]
theorem Alld.freed : freeM (allM m t) k (g0 + 1) = ⟨m.types, m.objs, m.slots.set k ⟨g0 + 1, false, 0⟩⟩ := by
  obtain ⟨h8, h960, h16, hty, hobs, hsl⟩ := chk_ok h.hc
  have hn := h.hn
  rw [freeM, if_pos h.free, h.own, h.hM, Int.toNat_natCast]
  dsimp only
  congr 1
  · rw [List.map_append, List.eraseIdx_append_of_length_le (by simp)]
    simp only [List.length_map, Nat.sub_self, List.map_cons, List.map_nil, List.eraseIdx_cons_zero, List.append_nil]
    conv => rhs; rw [← List.map_id m.objs]
    refine List.map_congr_left fun o ho => ?_
    obtain ⟨a1, a2, a3⟩ := hobs o ho
    rw [lowO, id]
    obtain ⟨oty, ofs⟩ := o
    congr 1
    apply List.ext_getElem?
    intro i
    rcases Nat.lt_or_ge i ofs.length with hi | hi
    · have h3 := (a3 i hi).2
      rw [List.getElem?_map, List.getElem?_range hi, Option.map_some, List.getElem?_eq_getElem hi]
      congr 1
      have hg : ofs.getD i 0 = ofs[i] := by rw [List.getD_eq_getElem?_getD, List.getElem?_eq_getElem hi]; rfl
      rw [lowV, if_neg, hg]
      rintro ⟨c1, c2⟩
      have := h3 c1
      omega
    · rw [List.getElem?_eq_none (by simpa using hi), List.getElem?_eq_none hi]
  · rw [List.set_set]
    conv => rhs; rw [← List.map_id (m.slots.set k ⟨g0 + 1, false, 0⟩)]
    refine List.map_congr_left fun s hs => ?_
    rw [lowS, id]
    rcases List.mem_or_eq_of_mem_set hs with hs | hs
    · split
      · rename_i hu
        have := (hsl s hs).2.2 hu
        obtain ⟨sg, su, sa⟩ := s
        dsimp only at hu this ⊢
        subst hu
        rw [lowA, if_neg (by omega)]
      · rfl
    · subst hs; rfl
end
end Go.Proofs.YtmbokdnndlnjkaaGreat.L20
namespace Go.Proofs.YtmbokdnndlnjkaaGreat.L20
open L02 L13 L18
theorem ob_putF {m : Mo} {n i : Nat} {v : UInt64} (hn : n < m.objs.length) : ob (putF m n i v) n = ⟨(ob m n).ty, (ob m n).fs.set i v⟩ := by
  rw [ob, putF, List.getD_eq_getElem?_getD, List.getElem?_set_self hn]; rfl
theorem len_putF {m : Mo} {n i : Nat} {v : UInt64} : (putF m n i v).objs.length = m.objs.length := by simp [putF]
theorem chk_putF {m : Mo} {n i : Nat} {v : UInt64} (hc : chk m = 0) (hn : n < m.objs.length) (hv : i < (ob m n).fs.length → FdOk m.objs.length ((ty m.types (ob m n)).getD i 0) v) : chk (putF m n i v) = 0 := by
  obtain ⟨h8, h960, h16, hty, hobs, hsl⟩ := chk_ok hc
  refine chk_zero (by rw [len_putF]; simp only [putF]; omega) ⟨h16, hty, fun o ho => ?_, fun s hs => ?_⟩
  · rw [len_putF]
    show ObOk m.types m.objs.length o
    rcases List.mem_or_eq_of_mem_set ho with ho | ho
    · exact hobs o ho
    · have hob : ob m n ∈ m.objs := by rw [ob, List.getD_eq_getElem?_getD, List.getElem?_eq_getElem hn]; exact List.getElem_mem hn
      obtain ⟨a1, a2, a3⟩ := hobs _ hob
      subst ho
      refine ⟨a1, by rw [List.length_set]; exact a2, fun j hj => ?_⟩
      have hj' : j < (ob m n).fs.length := by simpa using hj
      show FdOk m.objs.length ((ty m.types (ob m n)).getD j 0) (((ob m n).fs.set i v).getD j 0)
      by_cases hij : i = j
      · subst hij
        rw [show ((ob m n).fs.set i v).getD i 0 = v by rw [List.getD_eq_getElem?_getD, List.getElem?_set_self hj']; rfl]
        exact hv hj'
      · rw [show ((ob m n).fs.set i v).getD j 0 = (ob m n).fs.getD j 0 by rw [List.getD_eq_getElem?_getD, List.getElem?_set_ne hij, ← List.getD_eq_getElem?_getD]]
        exact a3 j hj'
  · rw [len_putF]; exact hsl s hs
theorem asked_putF {m : Mo} {n i : Nat} {v : UInt64} {sl g : Int} (hc : chk m = 0) (hp : chk (putF m n i v) = 0) : asked (putF m n i v) sl g = asked m sl g := by
  rw [asked, asked, if_pos hc, if_pos hp]; rfl
theorem own_putF {m : Mo} {n i : Nat} {v : UInt64} {sl : Int} : own (putF m n i v) sl = own m sl := rfl
theorem kinds_putF {m : Mo} {n i : Nat} {v : UInt64} {sl : Int} (hn : n < m.objs.length) (ho : own m sl = n) : kinds (putF m n i v) sl = kinds m sl := by
  rw [kinds, kinds, own_putF, ho, ob_putF hn]; rfl
end Go.Proofs.YtmbokdnndlnjkaaGreat.L20
namespace Go.Proofs.YtmbokdnndlnjkaaGreat.L20
open L02 L13 L18
/-- a field of the object of a right handle of a valid model -/
structure Ed (m : Mo) (k n i : Nat) (sg : Int) (o : Ob) (t : List UInt8) (kd : UInt8) (x0 : UInt64) : Prop where
  hc : chk m = 0
  hr : rightErr m.slots k sg = 0
  hs : m.slots[k]? = some ⟨sg, true, n⟩
  hn : n < m.objs.length
  ho : m.objs[n]? = some o
  hob : ob m n = o
  hi : i < o.fs.length
  hx : o.fs[i]? = some x0
  hown : own m k = n
  hty : 0 ≤ o.ty ∧ o.ty < m.types.length
  ht : m.types[o.ty.toNat]? = some t
  hk : t[i]? = some kd
  htl : t.length = o.fs.length
  htt : ty m.types o = t
  hE : kErrF m k sg i = 0
  hkd : kind m k sg i = kd
  hfd : FdOk m.objs.length kd x0
theorem Ed.of {m : Mo} {k n i : Nat} {sg : Int} {s : Sl} {o : Ob} {t : List UInt8} (hc : chk m = 0) (hr : rightErr m.slots k sg = 0) (hs : m.slots[k]? = some s) (hu : s.used = true) (hg : s.gen = sg) (hat : s.at_ = n) (ho : m.objs[n]? = some o) (hob : ob m n = o) (hoo : ObOk m.types m.objs.length o)
    (hown : own m k = n) (ht : m.types[o.ty.toNat]? = some t) (htt : ty m.types o = t) (hkinds : kinds m k = t) (hfl : o.fs.length = t.length) (hi : i < o.fs.length) : ∃ kd x0, Ed m k n i sg o t kd x0 := by
  obtain ⟨g, u, a⟩ := s
  dsimp only at hu hg hat
  subst hu; subst hg; subst hat
  have ha : asked m k g = 0 := by rw [asked, if_pos hc, hr]
  have hk : t[i]? = some t[i] := List.getElem?_eq_getElem (by omega)
  have hx : o.fs[i]? = some o.fs[i] := List.getElem?_eq_getElem hi
  have hE : kErrF m k g i = 0 := by rw [kErrF, if_pos ha, if_pos (by rw [hkinds]; omega)]
  have hf := hoo.2.2 i hi
  rw [htt, List.getD_eq_getElem?_getD, hk, List.getD_eq_getElem?_getD, hx] at hf
  exact ⟨t[i], o.fs[i], hc, hr, hs, (List.getElem?_eq_some_iff.1 ho).1, ho, hob, hi, hx, hown, hoo.1, ht, hk, hfl.symm, htt, hE, by rw [kind, if_pos hE, hkinds, Int.toNat_natCast, List.getD_eq_getElem?_getD, hk]; rfl, hf⟩
theorem setV_ok {N : Nat} {kd : UInt8} {v : UInt64} (h : kd.toNat ≠ 3) : FdOk N kd (setV kd v) := by
  refine ⟨fun h2 => ?_, fun h3 => absurd h3 h⟩
  unfold setV
  split
  · exact .inl rfl
  · rename_i h4
    exact Decidable.not_not.1 fun h5 => h4 ⟨h2, h5⟩
section
variable {m : Mo} {k n i : Nat} {sg : Int} {o : Ob} {t : List UInt8} {kd : UInt8} {x0 : UInt64} (h : Ed m k n i sg o t kd x0)
include h
theorem Ed.chk {v : UInt64} (hv : FdOk m.objs.length kd v) : L20.chk (putF m n i v) = 0 := by
  refine chk_putF h.hc h.hn fun _ => ?_
  rw [h.hob, h.htt, List.getD_eq_getElem?_getD, h.hk]; exact hv
/-- the field of an edited model -/
theorem Ed.put {v : UInt64} (hv : FdOk m.objs.length kd v) : Ed (putF m n i v) k n i sg ⟨o.ty, o.fs.set i v⟩ t kd v := by
  have hp := h.chk hv
  have hob : ob (putF m n i v) n = ⟨o.ty, o.fs.set i v⟩ := by rw [ob_putF h.hn, h.hob]
  have hki : kinds (putF m n i v) k = kinds m k := kinds_putF h.hn h.hown
  have hE : kErrF (putF m n i v) k sg i = kErrF m k sg i := by unfold kErrF; rw [asked_putF h.hc hp, hki]
  refine ⟨hp, h.hr, h.hs, by rw [len_putF]; exact h.hn, ?_, hob, by simpa using h.hi, List.getElem?_set_self h.hi, h.hown, h.hty, h.ht, h.hk, by simpa using h.htl, h.htt, hE.trans h.hE, ?_, by rw [len_putF]; exact hv⟩
  · show (m.objs.set n _)[n]? = _
    rw [List.getElem?_set_self h.hn, h.hob]
  · unfold kind; rw [hE, hki]; exact h.hkd
theorem Ed.fld : fld m k i = x0 := by rw [L20.fld, h.hown, h.hob, Int.toNat_natCast, List.getD_eq_getElem?_getD, h.hx]; rfl
theorem Ed.get (h3 : kd.toNat ≠ 3) : getE m k sg i = 0 ∧ getV m k sg i = x0 := by
  have e : getE m k sg i = 0 := by rw [getE, if_pos h.hE, h.hkd, if_neg h3]
  exact ⟨e, by rw [getV, if_pos e, h.fld]⟩
theorem Ed.get3 (h3 : kd.toNat = 3) : getE m k sg i = 42 ∧ getV m k sg i = 0 := by
  have e : getE m k sg i = 42 := by rw [getE, if_pos h.hE, h.hkd, if_pos h3]
  exact ⟨e, by rw [getV, e]; rfl⟩
theorem Ed.put_eq {v : UInt64} : L20.put m k i v = putF m n i v := by rw [L20.put, h.hown, Int.toNat_natCast]
theorem Ed.set {v : UInt64} (h3 : kd.toNat ≠ 3) : setM m k sg i v = putF m n i (setV kd v) := by rw [setM, if_pos (h.get h3).1, h.hkd, h.put_eq]
theorem Ed.set3 {v : UInt64} (h3 : kd.toNat = 3) : setM m k sg i v = .nil := by rw [setM, (h.get3 h3).1]; rfl
theorem Ed.ref (tq : Int × Int) (h3 : kd.toNat = 3) : refE m k sg i (some tq) = rightErr m.slots tq.1 tq.2 := by unfold refE; rw [if_pos h.hE, h.hkd, if_pos h3]
end
end Go.Proofs.YtmbokdnndlnjkaaGreat.L20
namespace Go.Proofs.YtmbokdnndlnjkaaGreat.L19
open L02 L07 L13 L14 L15 L16 L18 L20
/-- an image with a change made -/
def put1 (l : List UInt64) (e : Int × UInt64) : List UInt64 := if 0 ≤ e.1 ∧ e.1 < l.length then l.set e.1.toNat e.2 else l
def made (l : List UInt64) (E : List (Int × UInt64)) : List UInt64 := (E.take 100).foldl put1 l
theorem put1_set {l : List UInt64} {p : Nat} {y : UInt64} (h : p < l.length) : put1 l ((p : Int), y) = l.set p y := by
  unfold put1
  rw [if_pos ⟨by show (0 : Int) ≤ (p : Int); omega, by show (p : Int) < _; omega⟩, Int.toNat_natCast]
theorem made_one {l : List UInt64} {p : Nat} {y : UInt64} (h : p < l.length) : made l [((p : Int), y)] = l.set p y := put1_set h
theorem set_back {l : List UInt64} {p : Nat} {x y : UInt64} (h : l[p]? = some x) : (l.set p y).set p x = l := by
  rw [List.set_set]
  apply List.ext_getElem?
  intro i
  by_cases hi : i = p
  · subst hi
    rw [List.getElem?_set_self (List.getElem?_eq_some_iff.1 h).1, h]
  · rw [List.getElem?_set_ne (fun e => hi e.symm)]
section
variable {l : List UInt64} {k a nn q i : Nat} {sg : Int} {b : Hb} {t : List UInt8} {kd : UInt8} {x : UInt64}
theorem Hd.mk2 (rt : Rt l) (hk : k < 16) (hs : (slots l)[k]? = some ⟨sg, true, a⟩) (ho : (O19 l)[nn]? = some b) (hat : b.at_ = a) : ∃ q t, Hd l k a nn q sg b t := by
  have hr : resErr l k sg = 0 := by
    rw [(resErr_at rt.sl hs sg).1]; simp
  have ha : askI l k sg = 0 := by rw [askI, if_pos rt.chk, hr]
  obtain ⟨k', a', nn', q, b', t, e, h⟩ := Hd.of ha
  have : k' = k := by omega
  subst this
  have h1 := h.hs
  rw [hs] at h1
  injection h1 with h1
  injection h1 with _ _ h1
  have : a' = a := by omega
  subst this
  have hb : b' = b := objs_inj rt.al (List.mem_of_getElem? h.ho) (List.mem_of_getElem? ho) (by rw [h.hat, hat])
  subst hb
  have hn := objs_idx rt.al h.ho ho
  subst hn
  exact ⟨q, t, h⟩
theorem Fd.mk2 (h : Hd l k a nn q sg b t) (hi : i < t.length) : ∃ kd x, Fd l k a nn q i sg b t kd x := by
  have hE : kiErr l k sg i = 0 := by rw [kiErr, if_pos h.hask, h.kinds, if_pos ⟨by omega, by omega⟩]
  obtain ⟨k', a', nn', q', i', b', t', kd, x, e1, e2, f⟩ := Fd.of hE
  have : k' = k := by omega
  subst this
  have : i' = i := by omega
  subst this
  have h1 := f.hd.hs
  rw [h.hs] at h1
  injection h1 with h1
  injection h1 with _ _ h1
  have : a' = a := by omega
  subst this
  have hb : b' = b := objs_inj h.rt.al (List.mem_of_getElem? f.hd.ho) (List.mem_of_getElem? h.ho) (by rw [f.hd.hat, h.hat])
  subst hb
  have hn := objs_idx h.rt.al f.hd.ho h.ho
  subst hn
  have hq : q' = q := by have := f.hd.hty; have := h.hty; omega
  subst hq
  have ht : t' = t := by have h1 := f.hd.hT; have h2 := h.hT; rw [h1] at h2; injection h2
  subst ht
  exact ⟨kd, x, f⟩
theorem Fd.lt (f : Fd l k a nn q i sg b t kd x) : a + 2 + i < l.length := (List.getElem?_eq_some_iff.1 f.hx).1
theorem Fd.fdr (f : Fd l k a nn q i sg b t kd x) : FdR (O19 l) kd x := by
  refine ⟨fun h2 => ?_, f.ref⟩
  have hb := List.mem_of_getElem? f.hd.ho
  have := f.hd.rt.good 10 (by omega) (by omega) b hb i (by rw [f.hd.hkB]; exact f.hi) (by rw [f.hd.hkB, List.getD_eq_getElem?_getD, f.hkd]; exact h2)
  have hf : fw l b i = x := by unfold fw; rw [f.hd.hat, Int.toNat_natCast, List.getD_eq_getElem?_getD, f.hx]; rfl
  rw [hf] at this; exact this
/-- another field -/
theorem Fd.put (f : Fd l k a nn q i sg b t kd x) {y : UInt64} (hy : FdR (O19 l) kd y) :
    Fd (l.set (a + 2 + i) y) k a nn q i sg b t kd y ∧ seen (l.set (a + 2 + i) y) = putF (seen l) nn i (fldV (O19 l) kd y) ∧ O19 (l.set (a + 2 + i) y) = O19 l ∧ slots (l.set (a + 2 + i) y) = slots l ∧ T19 (l.set (a + 2 + i) y) = T19 l := by
  have rt := f.hd.rt
  have hbm := List.mem_of_getElem? f.hd.ho
  have hik : i < (kindsB (T19 l) b).length := by rw [f.hd.hkB]; exact f.hi
  have hkk : (kindsB (T19 l) b).getD i 0 = kd := by rw [f.hd.hkB, List.getD_eq_getElem?_getD, f.hkd]; rfl
  have hp : a + 2 + i = b.at_.toNat + 2 + i := by rw [f.hd.hat, Int.toNat_natCast]
  obtain ⟨rt', hsn⟩ := seen_put rt f.hd.ho hik hkk hp hy
  have fs := rt.fs hbm y hik hp
  have eO : O19 (l.set (a + 2 + i) y) = O19 l := by unfold O19; rw [fs.alL]
  obtain ⟨q', t', h'⟩ := Hd.mk2 (k := k) (sg := sg) (a := a) rt' f.hd.hk (by rw [fs.slL]; exact f.hd.hs) (by rw [eO]; exact f.hd.ho) f.hd.hat
  have hq : q' = q := by have := h'.hty; have := f.hd.hty; omega
  subst hq
  have ht : t' = t := by have h1 := h'.hT; have h2 := f.hd.hT; rw [fs.tyT, h2] at h1; injection h1 with h1; exact h1.symm
  subst ht
  obtain ⟨kd', x', f'⟩ := Fd.mk2 h' f.hi
  have hkd : kd' = kd := by have h1 := f'.hkd; rw [f.hkd] at h1; injection h1 with h1; exact h1.symm
  have hx : x' = y := by have h1 := f'.hx; rw [List.getElem?_set_self f.lt] at h1; injection h1 with h1; exact h1.symm
  subst hkd; subst hx
  exact ⟨f', hsn, eO, fs.slL, fs.tyT⟩
theorem Fd.gE (f : Fd l k a nn q i sg b t kd x) : giE l k sg i = if kd.toNat = 3 then 42 else 0 := by rw [giE, if_pos f.hE, f.hK]
theorem Fd.sL (f : Fd l k a nn q i sg b t kd x) (h3 : kd.toNat ≠ 3) (v : UInt64) : siL l k sg i v = [(((a + 2 + i : Nat) : Int), setV kd v)] := by rw [siL, f.gE, if_neg h3, if_pos rfl, f.hAt, f.hK]
theorem setV_fdr {O : List Hb} (h3 : kd.toNat ≠ 3) (v : UInt64) : FdR O kd (setV kd v) := ⟨(setV_ok (N := 0) h3).1, fun h => absurd h h3⟩
theorem setV_same {O : List Hb} (h : FdR O kd x) : setV kd x = x := by
  unfold setV
  rw [if_neg (fun e => e.2 (h.1 e.1))]
/-- what is written last counts -/
theorem Fd.last (f : Fd l k a nn q i sg b t kd x) (h3 : kd.toNat ≠ 3) (v : UInt64) :
    Fd (made l (siL l k sg i v)) k a nn q i sg b t kd (setV kd v) ∧ (∀ u, made (made l (siL l k sg i v)) (siL (made l (siL l k sg i v)) k sg i u) = made l (siL l k sg i u)) ∧ made (made l (siL l k sg i v)) (siL (made l (siL l k sg i v)) k sg i x) = l ∧ made l (siL l k sg i x) = l := by
  have e1 : made l (siL l k sg i v) = l.set (a + 2 + i) (setV kd v) := by rw [f.sL h3, made_one f.lt]
  obtain ⟨f', _⟩ := f.put (setV_fdr h3 v)
  rw [e1]
  refine ⟨f', fun u => ?_, ?_, ?_⟩
  · rw [f'.sL h3, made_one f'.lt, f.sL h3, made_one f.lt, List.set_set]
  · rw [f'.sL h3, made_one f'.lt, setV_same f.fdr, set_back f.hx]
  · rw [f.sL h3, made_one f.lt, setV_same f.fdr]
    have := set_back (y := x) f.hx
    rw [List.set_set] at this; exact this
end
theorem slOf_ug (O : List Hb) (s : Sl) : (slOf O s).used = s.used ∧ (slOf O s).gen = s.gen := by
  unfold slOf
  by_cases hu : s.used = true
  · rw [if_pos hu, hu]; exact ⟨rfl, rfl⟩
  · rw [if_neg hu]; exact ⟨rfl, rfl⟩
/-- what the model asks is what the image asks -/
theorem right_map {S : List Sl} {O : List Hb} (sl g : Int) : rightErr (S.map (slOf O)) sl g = rightErr S sl g := by
  unfold rightErr
  rw [List.length_map]
  by_cases h : 0 ≤ sl ∧ sl < S.length
  · rw [if_pos h, if_pos h]
    have hk : sl.toNat < S.length := by omega
    rw [List.getD_eq_getElem?_getD, List.getElem?_map, List.getD_eq_getElem?_getD, List.getElem?_eq_getElem hk]
    simp only [Option.map_some, Option.getD_some]
    simp only [(slOf_ug O _).1, (slOf_ug O _).2]
  · rw [if_neg h, if_neg h]
theorem next_map {O : List Hb} : ∀ (S : List Sl) (j : Nat), nextFrom (S.map (slOf O)) j = nextFrom S j
  | [], j => rfl
  | s :: S, j => by
    rw [List.map_cons, nextFrom, nextFrom, next_map S]
    rw [(slOf_ug O s).1, (slOf_ug O s).2]
section
variable {l : List UInt64}
theorem asked_seen (h : Rt l) (sl g : Int) : asked (seen l) sl g = askI l sl g := by
  rw [asked, if_pos (seen_chk h), askI, if_pos h.chk, resErr, if_pos h.sl]
  exact right_map sl g
end
section
variable {l : List UInt64} {k a nn q i : Nat} {sg : Int} {b : Hb} {t : List UInt8} {kd : UInt8} {x : UInt64}
theorem Fd.fld (f : Fd l k a nn q i sg b t kd x) : fld (seen l) k i = fldV (O19 l) kd x := by
  unfold L20.fld
  rw [f.hd.own, f.hd.ob, Int.toNat_natCast]
  show (obFs l (T19 l) (O19 l) b).getD i 0 = _
  have hik : i < (kindsB (T19 l) b).length := by rw [f.hd.hkB]; exact f.hi
  have hkk : (kindsB (T19 l) b).getD i 0 = kd := by rw [f.hd.hkB, List.getD_eq_getElem?_getD, f.hkd]; rfl
  have hf : fw l b i = x := by unfold fw; rw [f.hd.hat, Int.toNat_natCast, List.getD_eq_getElem?_getD, f.hx]; rfl
  rw [List.getD_eq_getElem?_getD, obFs_get hik, hkk, hf]; rfl
end
end Go.Proofs.YtmbokdnndlnjkaaGreat.L19
