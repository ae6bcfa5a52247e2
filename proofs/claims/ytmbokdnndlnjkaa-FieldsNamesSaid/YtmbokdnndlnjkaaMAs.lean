/- Contracts of the functions that the laws 'A' reach, part 19. No condition. -/
import Derived.Test.YtmbokdnndlnjkaaMAr
set_option linter.unusedVariables false
set_option linter.unusedSimpArgs false
namespace Go.Proofs.Ytmbokdnndlnjkaa
open Go Go.RowKit
section
variable {P : Program} {ops : Array Oper} {md : Region.Mode} {C : Array Bool → World → Prop} {nn : Nat → Bool} {x : Nat → Value} {T : Nat → Sem Next → Prop}
def wpAnyH (P : Program) (md : Region.Mode) (ops : Array Oper) (C : Array Bool → World → Prop) (nn : Nat → Bool) (x : Nat → Value) (T : Nat → Sem Next → Prop) (n : Nat) (L : Array Bool → Act → Prop) : Nat → Array Bool → Act → Prop
  | 0, listed, a => L listed a
  | f + 1, listed, a =>
    Region.ready md ops listed ≠ [] ∧ ∀ i ∈ Region.ready md ops listed, i < n ∧ qOpM P md ops C nn x T i (wpAnyH P md ops C nn x T n L f (listed.setIfInBounds i true)) a
theorem wpAnyH_first {n i : Nat} {oi : Oper} {v : Value} {L : Array Bool → Act → Prop} (hi : ops[i]? = some oi) (hsel : ∀ (j : Nat) (o : Oper) cs b, ops[j]? = some o → o.op ≠ .select cs b)
    (hs : Region.sinkB md ops n = true) (hc : Region.chainB md ops n = true) (hn : n < ops.size) (hin : i < n)
    (hdone : ∀ listed a, L listed a → ∀ j ∈ Region.ready md ops listed, n ≤ j) :
    ∀ (f : Nat) (listed : Array Bool) (a : Act), HeadInv md ops n listed →
      (∀ j oj, ops[j]? = some oj → j ≠ i → listed.getD j true = false → (∀ e ∈ oj.after, Region.binds md e = true → e.on ≠ i) → oi.apart ops oj = true) →
      i ∈ Region.ready md ops listed → YieldsM P md ops C nn x i oi v a ∧ (nn i = true → T i (execOp a.eval oi)) →
      wpAnyH P md ops C nn x T n L f (listed.setIfInBounds i true) (a.put oi.dst v) → wpAnyH P md ops C nn x T n L (f + 1) listed a := by
  intro f
  induction f with
  | zero =>
    intro listed a inv _ hr hy H
    have hun := (mem_ready.1 hr).1
    refine ⟨fun h => (by rw [h] at hr; cases hr), fun j hj => ?_⟩
    have hjn : j < n := by
      rcases Nat.lt_or_ge j n with h | h
      · exact h
      · exact absurd hj (tail_waits hs hc hn inv _ i rfl hin hun j h)
    refine ⟨hjn, ?_⟩
    by_cases hji : j = i
    · subst hji; unfold qOpM; simp only [hi]; exact ⟨v, hy, H⟩
    · have := hdone _ _ H j (ready_mono hj hji)
      omega
  | succ f ih =>
    intro listed a inv hfree hr hy H
    have hun := (mem_ready.1 hr).1
    refine ⟨fun h => (by rw [h] at hr; cases hr), fun j hj => ?_⟩
    have hjn : j < n := by
      rcases Nat.lt_or_ge j n with h | h
      · exact h
      · exact absurd hj (tail_waits hs hc hn inv _ i rfl hin hun j h)
    refine ⟨hjn, ?_⟩
    by_cases hji : j = i
    · subst hji; unfold qOpM; simp only [hi]; exact ⟨v, hy, H⟩
    · have h1 := (H.2 j (ready_mono hj hji)).2
      obtain ⟨hjun, oj, hoj, hall⟩ := mem_ready.1 hj
      have hnot : ∀ e ∈ oj.after, Region.binds md e = true → e.on ≠ i := fun e he hb heq => by
        have h1 := hall e he hb
        rw [heq, getD_both hun] at h1
        cases h1
      have h2 := qOpM_put hoj (hfree j oj hoj hji hjun hnot) (fun cs b => hsel i oi cs b hi) (fun cs b => hsel j oj cs b hoj) hy h1
      have hfree' : ∀ k ok, ops[k]? = some ok → k ≠ i → (listed.setIfInBounds j true).getD k true = false →
          (∀ e ∈ ok.after, Region.binds md e = true → e.on ≠ i) → oi.apart ops ok = true := fun k ok hk hki hun hno => by
        refine hfree k ok hk hki ?_ hno
        by_cases hjk : j = k
        · subst hjk; exact hjun
        · rw [getD_set_ne true hjk] at hun; exact hun
      refine qOpM_mono (fun a' h3 => ih (listed.setIfInBounds j true) a' (inv.set hj hjn) hfree' (ready_mono hr (Ne.symm hji)) h3.1 ?_) h2
      rw [Array.setIfInBounds_comm _ _ hji]
      exact h3.2
theorem wpAnyH_lex {n g : Nat} {Lq : Act → Prop} (hsel : Region.noSelect ops = true) (hs : Region.sinkB md ops n = true) (hc : Region.chainB md ops n = true) (hn : n < ops.size) :
    ∀ (l : List Oper) (k : Nat) (listed : Array Bool) (a : Act), (∀ j, j < l.length → l[j]? = ops[k + j]?) → k + l.length = n → HeadInv md ops n listed → (∀ j, j < k → listed.getD j false = true) →
    Region.lexHead md ops g l.length k listed = true → wpM P md ops C nn x T Lq l k a →
    wpAnyH P md ops C nn x T n (fun listed' a' => Region.seqB md ops g n listed' = true ∧ (∀ j, j < n → listed'.getD j false = true) ∧ Lq a') l.length listed a
  | [], k, listed, a, _, hk, _, hd, hB, h => by
    have : k = n := by simpa using hk
    subst this
    exact ⟨by simpa [Region.lexHead] using hB, hd, h⟩
  | o :: l, k, listed, a, hl, hk, inv, hd, hB, h => by
    have h0 : ops[k]? = some o := by simpa using (hl 0 (by simp)).symm
    simp only [List.length_cons, Region.lexHead, Bool.and_eq_true] at hB
    obtain ⟨⟨hr, hf⟩, hB'⟩ := hB
    have hkn : k < n := by simp only [List.length_cons] at hk; omega
    have hr' : k ∈ Region.ready md ops listed := by simpa using hr
    obtain ⟨v, hy, hK⟩ := h
    have hun := (mem_ready.1 hr').1
    exact wpAnyH_first h0 (Region.noSelect_spec hsel) hs hc hn hkn (fun listed' a' hL => seqB_ready hL.1) l.length listed a inv (Region.free_spec h0 hf) hr' hy
      (wpAnyH_lex hsel hs hc hn l (k + 1) _ _ (fun j hj => by have := hl (j + 1) (by simp; omega); simpa [Nat.add_assoc, Nat.add_comm 1 j] using this) (by simp only [List.length_cons] at hk; omega) (inv.set hr' hkn) (fun j hj => by
        by_cases hjk : j = k
        · subst hjk; exact (getD_on hun).2
        · rw [getD_set_ne false (Ne.symm hjk)]; exact hd j (by omega)) hB' hK)
theorem wpAny_of_H {G : Type} {val : G → Nat → Value} {V : G → Prop} {Ag : Array Bool → G → G → Prop} {Cg : G → Array Bool → World → Prop} {Tg : G → Nat → Sem Next → Prop} {Q' : Exit → Act → World → Prop} {n gt : Nat} {L : G → Array Bool → Act → Prop}
    (hL : ∀ g l a w, Cg g l w → L g l a → wpAny P md ops Q' gt l a w)
    (hrf : ∀ (l : Array Bool) g, Ag l g g) (htr : ∀ (l : Array Bool) g g' g'', Ag l g g' → Ag l g' g'' → Ag l g g'') (hmn : ∀ (l : Array Bool) i g g', Ag (l.setIfInBounds i true) g g' → l.getD i true = false → Ag l g g')
    (hvl : ∀ (l : Array Bool) i g g', nn i = true → l.getD i true = false → Ag (l.setIfInBounds i true) g g' → val g i = val g' i) (hag : ∀ (l : Array Bool) g g' w, Ag l g g' → Cg g l w → Cg g' l w)
    (hT : ∀ i s (l : Array Bool) w g, nn i = true → Tg g i s → V g → i ∈ Region.ready md ops l → Cg g l w → uponN P (fun v w' => ∃ g', V g' ∧ Ag l g g' ∧ v = val g' i ∧ Cg g' (l.setIfInBounds i true) w') (s.run P w)) :
    ∀ (fuel : Nat) (l : Array Bool) (a : Act) (w : World) (g0 : G), V g0 → Cg g0 l w →
    (∀ g, V g → Ag l g0 g → wpAnyH P md ops (Cg g) nn (val g) (Tg g) n (L g) fuel l a) → wpAny P md ops Q' (fuel + gt) l a w
  | 0, l, a, w, g0, hg0, hC, h => by rw [Nat.zero_add]; exact hL g0 l a w hC (h g0 hg0 (hrf _ _))
  | fuel + 1, l, a, w, g0, hg0, hC, h => by
    rw [show fuel + 1 + gt = (fuel + gt) + 1 by omega]
    refine ⟨fun h0 => absurd h0 (h g0 hg0 (hrf _ _)).1, fun i hi => ?_⟩
    have hun := (mem_ready.1 hi).1
    have h1 := ((h g0 hg0 (hrf _ _)).2 i hi).2
    unfold qOpM at h1
    unfold wpOp
    split
    · rename_i ho; simp only [ho] at h1
    · rename_i o ho
      simp only [ho] at h1
      obtain ⟨v, ⟨h2, hT0⟩, h3⟩ := h1
      have next : nn i = true → ∀ g', V g' → Ag l g0 g' → ∀ w', Cg g' (l.setIfInBounds i true) w' → wpAny P md ops Q' (fuel + gt) (l.setIfInBounds i true) (a.put o.dst (val g' i)) w' := by
        intro hn g' hg' hA w' hC'
        refine wpAny_of_H (n := n) hL hrf htr hmn hvl hag hT fuel _ _ w' g' hg' hC' fun g hg hA2 => ?_
        have h4 := ((h g hg (htr _ _ _ _ hA (hmn _ _ _ _ hA2 hun))).2 i hi).2
        unfold qOpM at h4
        simp only [ho] at h4
        obtain ⟨v', ⟨h5, _⟩, h6⟩ := h4
        rcases h5 with ⟨_, e5, _⟩ | ⟨hne, _⟩
        · rw [hvl _ _ _ _ hn hun hA2, ← e5]; exact h6
        · rw [hn] at hne; cases hne
      rcases h2 with ⟨hn, hv, hw⟩ | ⟨hn, h2⟩
      · rw [if_pos hw]
        left
        have h5 := hT i _ l w g0 hn (hT0 hn) hg0 hi hC
        unfold Oper.wp
        generalize (execOp a.eval o).run P w = r at *
        cases r with
        | ok n w' =>
          cases n <;> simp only [uponN] at h5 <;> simp only [Oper.upon]
          case value u => obtain ⟨g', e1, e2, rfl, e4⟩ := h5; exact next hn g' e1 e2 _ e4
          case enter f args =>
            refine h5.mono fun e w'' ⟨u, he, g', e1, e2, e3, e4⟩ => ?_
            subst he; subst e3
            exact next hn g' e1 e2 _ e4
        | halt y w' => simp only [uponN] at h5
      · have hval : ∀ g, V g → Ag (l.setIfInBounds i true) g0 g → wpAnyH P md ops (Cg g) nn (val g) (Tg g) n (L g) fuel (l.setIfInBounds i true) (a.put o.dst v) := by
          intro g hg hA2
          have hA := hmn _ _ _ _ hA2 hun
          have h4 := ((h g hg hA).2 i hi).2
          unfold qOpM at h4
          simp only [ho] at h4
          obtain ⟨v', ⟨h5, _⟩, h6⟩ := h4
          rcases h5 with ⟨e, _⟩ | ⟨_, h5⟩
          · rw [hn] at e; cases e
          · have hvv : v = v' := by
              rcases h2 with ⟨hw, ha⟩ | ⟨hw, rfl, _⟩
              · rcases h5 with ⟨_, hb⟩ | ⟨hw', _⟩
                · exact uponV_val (ha l w hi hC) (hb l w hi (hag _ _ _ _ hA hC))
                · rw [hw] at hw'; cases hw'
              · rcases h5 with ⟨hw', _⟩ | ⟨_, e, _⟩
                · rw [hw] at hw'; cases hw'
                · exact e.symm
            rw [hvv]; exact h6
        rcases h2 with ⟨hw, ha⟩ | ⟨hw, rfl, hv⟩
        · rw [if_pos hw]
          left
          have h5 := ha l w hi hC
          unfold Oper.wp
          generalize (execOp a.eval o).run P w = r at *
          cases r with
          | ok n w' =>
            cases n <;> simp only [uponV] at h5 <;> simp only [Oper.upon]
            case value u => obtain ⟨e1, e2⟩ := h5; rw [e1]; exact wpAny_of_H (n := n) hL hrf htr hmn hvl hag hT fuel _ _ w' g0 hg0 e2 hval
            case skip => obtain ⟨e1, e2⟩ := h5; rw [← e1]; exact wpAny_of_H (n := n) hL hrf htr hmn hvl hag hT fuel _ _ w' g0 hg0 e2 hval
          | halt y w' => simp only [uponV] at h5
        · rw [if_neg (by rw [hw]; exact Bool.false_ne_true)]
          exact wpAny_of_H (n := n) hL hrf htr hmn hvl hag hT fuel _ _ w g0 hg0 (hv l w hi hC) hval
end
/-- a world behind w, of which p holds besides -/
structure FutP (w : World) (p : World → Prop) where
  W : World
  h : Below w.heap.size w W
  hp : p W
/-- what holds at the head: no old block is changed; of the operations ns that are done, what is known of their values -/
def CH (w : World) (ns : List Nat) (dep : Nat → List Nat) (Φ : Nat → (Nat → Value) → World → Prop) (g : Nat → Value) : Array Bool → World → Prop := fun listed W =>
  Below w.heap.size w W ∧ ∀ k ∈ ns, listed.getD k false = true → Φ k g W ∧ ∀ j ∈ dep k, listed.getD j false = true
section
variable {P : Program} {ops : Array Oper} {rest : List Oper} {o : Oper} {a : Act} {Q : Act → Prop} {k : Nat} {md : Region.Mode} {T : Nat → Sem Next → Prop} {w : World} {ns : List Nat} {dep : Nat → List Nat} {Φ : Nat → (Nat → Value) → World → Prop} {g : Nat → Value}
theorem wpH_nil {C : Array Bool → World → Prop} {nn : Nat → Bool} {x : Nat → Value} (h : Q a) : wpM P md ops C nn x T Q [] k a := h
/-- an operation that only reads what was there before -/
theorem wpH_read0 (hV : isV o.op = true) (hn : (ns.contains k) = false)
    (h : wpQuiet P ops (fun W => ∃ x : Fut w, W = x.W) (fun a' => wpM P md ops (CH w ns dep Φ g) (fun i => ns.contains i) g T Q rest (k + 1) a') [o] a) : wpM P md ops (CH w ns dep Φ g) (fun i => ns.contains i) g T Q (o :: rest) k a := by
  have skip : ∀ {listed : Array Bool} {W : World}, CH w ns dep Φ g listed W → CH w ns dep Φ g (listed.setIfInBounds k true) W := fun {listed W} hW => by
    refine ⟨hW.1, fun j hj hl => ?_⟩
    have hjk : k ≠ j := fun e => by subst e; rw [List.contains_iff_mem.2 hj] at hn; cases hn
    rw [getD_set_ne false hjk] at hl
    obtain ⟨h1, h2⟩ := hW.2 j hj hl
    exact ⟨h1, fun i hi => getD_set_true (h2 i hi)⟩
  unfold wpQuiet at h
  split at h
  · rename_i hw
    obtain ⟨v, h1, h2⟩ := h
    refine ⟨v, ⟨.inr ⟨hn, .inl ⟨hw, fun listed W hl hW => ?_⟩⟩, fun e => (by have e' : ns.contains k = true := e; rw [hn] at e'; cases e')⟩, h2⟩
    have h3 := h1 W ⟨⟨W, hW.1⟩, rfl⟩
    unfold Oper.quietAt at h3
    cases hr : (execOp a.eval o).run P W with
    | ok n w' =>
      obtain ⟨u, rfl⟩ := isV_value hV hr
      rw [hr] at h3
      simp only [Oper.quietUpon] at h3
      simp only [uponV]
      obtain ⟨e1, e2⟩ := h3
      subst e1
      exact ⟨e2, skip hW⟩
    | halt x w' => rw [hr] at h3; simp only [Oper.quietUpon] at h3
  · rename_i hw
    exact ⟨undef, ⟨.inr ⟨hn, .inr ⟨by simpa using hw, rfl, fun listed W hl hW => skip hW⟩⟩, fun e => (by have e' : ns.contains k = true := e; rw [hn] at e'; cases e')⟩, h⟩
/-- an operation that yields one value in every world -/
theorem wpH_pure (hn : ns.contains k = false) (hw : Region.wanted o (yielded ops a.tmps) = true) {v : Value} (hr : ∀ W, (execOp a.eval o).run P W = .ok (.value v) W) (h : wpM P md ops (CH w ns dep Φ g) (fun i => ns.contains i) g T Q rest (k + 1) (a.put o.dst v)) : wpM P md ops (CH w ns dep Φ g) (fun i => ns.contains i) g T Q (o :: rest) k a := by
  refine ⟨v, ⟨.inr ⟨hn, .inl ⟨hw, fun listed W hl hW => ?_⟩⟩, fun e => (by have e' : ns.contains k = true := e; rw [hn] at e'; cases e')⟩, h⟩
  rw [hr W]
  refine ⟨rfl, hW.1, fun j hj hl' => ?_⟩
  have hjk : k ≠ j := fun e => by subst e; rw [List.contains_iff_mem.2 hj] at hn; cases hn
  rw [getD_set_ne false hjk] at hl'
  obtain ⟨h1, h2⟩ := hW.2 j hj hl'
  exact ⟨h1, fun i hi => getD_set_true (h2 i hi)⟩
/-- an operation that makes fresh memory -/
theorem wpH_new (hn : ns.contains k = true) (hw : Region.wanted o (yielded ops a.tmps) = true) (hT : T k (execOp a.eval o)) (h : wpM P md ops (CH w ns dep Φ g) (fun i => ns.contains i) g T Q rest (k + 1) (a.put o.dst (g k))) : wpM P md ops (CH w ns dep Φ g) (fun i => ns.contains i) g T Q (o :: rest) k a :=
  ⟨g k, ⟨.inl ⟨hn, rfl, hw⟩, fun _ => hT⟩, h⟩
end
/-- what a fresh operation does: no old block is changed; its value is of the shape V, and Φ is known of it -/
def TS (P : Program) (w : World) (dep : Nat → List Nat) (V : Nat → Value → Prop) (Φ : Nat → (Nat → Value) → World → Prop) (g : Nat → Value) (k : Nat) (s : Sem Next) : Prop :=
  ∀ W, Below w.heap.size w W → (∀ j ∈ dep k, Φ j g W) → uponN P (fun v W' => V k v ∧ Below W.heap.size W W' ∧ ∀ g', g' k = v → (∀ j ∈ dep k, g' j = g j) → Φ k g' W') (s.run P W)
section
variable {P : Program} {w : World} {dep : Nat → List Nat} {V : Nat → Value → Prop} {Φ : Nat → (Nat → Value) → World → Prop} {g : Nat → Value} {k : Nat} {o : Oper} {a : Act}
/-- a call -/
theorem TS.call {f : FuncId} {xs : Array Operand} {ats : Array TypeId} {dst : Option Tmp} {ty : TypeId} {pos : String} {after : Array Edge} {gd : Option (Nat × Bool)} {av : Array Value} (hav : xs.map a.eval = av) (hf : ∀ W, (callFunc f (#[] ++ av ++ #[])).run P W = .ok (.enter f av) W)
    (h : ∀ W, Below w.heap.size w W → (∀ j ∈ dep k, Φ j g W) → Calls P f av W fun e W' => ∃ v, e = .returned v ∧ V k v ∧ Below W.heap.size W W' ∧ ∀ g', g' k = v → (∀ j ∈ dep k, g' j = g j) → Φ k g' W') :
    TS P w dep V Φ g k (execOp a.eval ⟨dst, .call ⟨.value (.func f), xs, ats⟩, ty, pos, after, gd⟩) := by
  intro W hW hd
  rw [execOp_call_go, hav, hf]
  exact h W hW hd
/-- what yields a value -/
theorem TS.val {s : Sem Next} (h : ∀ W, Below w.heap.size w W → (∀ j ∈ dep k, Φ j g W) → ∃ v W', s.run P W = .ok (.value v) W' ∧ V k v ∧ Below W.heap.size W W' ∧ ∀ g', g' k = v → (∀ j ∈ dep k, g' j = g j) → Φ k g' W') : TS P w dep V Φ g k s := by
  intro W hW hd
  obtain ⟨v, W', h1, h2⟩ := h W hW hd
  rw [h1]; exact h2
/-- a slice is made -/
theorem TS.make {t : TypeId} {l c : Operand} (ho : o.op = .makeSlice t l c) {lv cv : Value} (hl : a.eval l = lv) (hc : a.eval c = cv)
    (h : ∀ W, Below w.heap.size w W → (∀ j ∈ dep k, Φ j g W) → ∃ v W', (Instr.makeSlice t lv cv).run P W = .ok v W' ∧ V k v ∧ Below W.heap.size W W' ∧ ∀ g', g' k = v → (∀ j ∈ dep k, g' j = g j) → Φ k g' W') : TS P w dep V Φ g k (execOp a.eval o) := by
  refine TS.val fun W hW hd => ?_
  obtain ⟨v, W', h1, h2⟩ := h W hW hd
  refine ⟨v, W', ?_, h2⟩
  simp [execOp, ho, hl, hc, h1]
/-- what is run for a value -/
theorem TS.sem {s : Sem Value} (hs : execOp a.eval o = (do pure (Next.value (← s)))) (h : ∀ W, Below w.heap.size w W → (∀ j ∈ dep k, Φ j g W) → ∃ v W', s.run P W = .ok v W' ∧ V k v ∧ Below W.heap.size W W' ∧ ∀ g', g' k = v → (∀ j ∈ dep k, g' j = g j) → Φ k g' W') : TS P w dep V Φ g k (execOp a.eval o) := by
  refine TS.val fun W hW hd => ?_
  obtain ⟨v, W', h1, h2⟩ := h W hW hd
  refine ⟨v, W', ?_, h2⟩
  rw [hs, Sem.run_bind, h1]; rfl
end
/-- the region: the first n are the head; ns those that make fresh memory; dep which of these each of them waits for; Φ what is known of their values; T what they run -/
theorem wp_region_ftail {P : Program} {id : Nat} {Q : Exit → Act → World → Prop} {a : Act} {w : World} {l : List Oper} (n : Nat) (ns : List Nat) (dep : Nat → List Nat) (V : Nat → Value → Prop) (Φ : Nat → (Nat → Value) → World → Prop)
    (hm : P.follows .mixedOrders = true) (hB : Region.lexTailB .any l.toArray n = true)
    (hnj : (ns.all fun k => decide (k < n) && match l.toArray[k]? with | some o => (dep k).all (fun j => ns.contains j && o.after.any fun e => Region.binds .any e && e.on == j) | none => false) = true)
    (hst : ∀ k ∈ ns, ∀ g W W', Φ k g W → Below W.heap.size W W' → Φ k g W')
    (hdp : ∀ k ∈ ns, ∀ g g' W, (∀ j, (j = k ∨ j ∈ dep k) → g j = g' j) → Φ k g W → Φ k g' W)
    (hV0 : ∀ k ∈ ns, ∃ v, V k v)
    (h : ∀ g, (∀ k ∈ ns, V k (g k)) → wpM P .any l.toArray (CH w ns dep Φ g) (fun i => ns.contains i) g (TS P w dep V Φ g) (fun a' => ∀ W, Below w.heap.size w W → (∀ k ∈ ns, Φ k g W) → wpList P l.toArray Q (l.drop n) a' W) (l.take n) 0 a) : (Code.region id l.toArray true).wp P Q a w := by
  simp only [Region.lexTailB, Bool.and_eq_true, decide_eq_true_eq] at hB
  obtain ⟨⟨⟨⟨hsel, hn⟩, hs⟩, hc⟩, hlex⟩ := hB
  have hn' : n < l.length := by simpa using hn
  have htl : (l.take n).length = n := by simp; omega
  have hdl : (l.drop n).length = l.toArray.size - n := by simp
  have inv0 : HeadInv .any l.toArray n (Array.replicate l.toArray.size false) :=
    ⟨by simp, fun j oj _ hl => (by rw [getD_replicate_false] at hl; cases hl), fun t _ ht => getD_in (by simpa using ht) (getD_replicate_false _ _)⟩
  have H := fun g hg => wpAnyH_lex (md := .any) (g := l.toArray.size - n) hsel hs hc hn (l.take n) 0 _ a (fun j hj => by
    have hj' : j < n := by rw [htl] at hj; exact hj
    simp [hj']) (by simpa using htl) inv0 (fun j hj => by omega) (by rw [htl]; exact hlex) (h g hg)
  have un : ∀ {listed : Array Bool} {i : Nat}, listed.getD i true = false → listed.getD i false = false := fun {listed i} h1 => getD_both h1
  obtain ⟨g0, hg0⟩ : ∃ g0 : Nat → Value, ∀ k ∈ ns, V k (g0 k) := by
    have h1 : ∀ k, ∃ v, k ∈ ns → V k v := fun k => by
      by_cases hk : k ∈ ns
      · obtain ⟨v, hv⟩ := hV0 k hk; exact ⟨v, fun _ => hv⟩
      · exact ⟨undef, fun h => absurd h hk⟩
    obtain ⟨f, hf⟩ := Classical.axiomOfChoice h1
    exact ⟨f, hf⟩
  refine wp_region_any hm ?_
  have := wpAny_of_H (P := P) (md := .any) (ops := l.toArray) (Q' := Q) (gt := l.toArray.size - n) (n := n) (nn := fun i => ns.contains i) (G := Nat → Value) (val := fun g => g) (V := fun g => ∀ k ∈ ns, V k (g k))
    (Ag := fun listed g g' => ∀ k ∈ ns, listed.getD k false = true → g k = g' k) (Cg := CH w ns dep Φ) (Tg := TS P w dep V Φ)
    (L := fun g listed' a' => Region.seqB .any l.toArray (l.toArray.size - n) n listed' = true ∧ (∀ j, j < n → listed'.getD j false = true) ∧ ∀ W, Below w.heap.size w W → (∀ k ∈ ns, Φ k g W) → wpList P l.toArray Q (l.drop n) a' W)
    (fun g listed a' W hC hL => by
      obtain ⟨h1, h2, h3⟩ := hL
      have hlt : ∀ k ∈ ns, k < n := fun k hk => by
        have := List.all_eq_true.1 hnj k hk
        simp only [Bool.and_eq_true, decide_eq_true_eq] at this
        exact this.1
      have := wpAny_of_seq (md := .any) (Q' := Q) (l.drop n) n listed a' W (fun j => by simp [List.getElem?_drop]) (by rw [hdl]; exact h1) (h3 W hC.1 (fun k hk => (hC.2 k hk (h2 k (hlt k hk))).1))
      rwa [hdl] at this)
    (fun _ _ _ _ _ => rfl) (fun l g g' g'' h1 h2 k hk hl => (h1 k hk hl).trans (h2 k hk hl))
    (fun listed i g g' h1 h2 k hk hl => h1 k hk (getD_set_true hl))
    (fun listed i g g' hi h1 h2 => h2 i (List.contains_iff_mem.1 hi) (getD_on h1).2)
    (fun listed g g' W hA hC => ⟨hC.1, fun k hk hl => ⟨hdp k hk g g' W (fun j hj => by
      rcases hj with rfl | hj
      · exact hA j hk hl
      · have hdj := List.all_eq_true.1 hnj k hk
        simp only [Bool.and_eq_true] at hdj
        have h2 := (hC.2 k hk hl).2 j hj
        cases ho : l.toArray[k]? with
        | none => rw [ho] at hdj; cases hdj.2
        | some o =>
          have h3 := hdj.2
          simp only [ho] at h3
          have h4 := List.all_eq_true.1 h3 j hj
          simp only [Bool.and_eq_true] at h4
          exact hA j (List.contains_iff_mem.1 h4.1) h2) (hC.2 k hk hl).1, (hC.2 k hk hl).2⟩⟩)
    (fun i s listed W g hi hTs hg hr hC => by
      have hin : i ∈ ns := List.contains_iff_mem.1 hi
      have hun := (mem_ready.1 hr).1
      have hdj := List.all_eq_true.1 hnj i hin
      simp only [Bool.and_eq_true] at hdj
      obtain ⟨o, ho, _⟩ := (mem_ready.1 hr).2
      have h3 := hdj.2
      simp only [ho] at h3
      have hdeps : ∀ j ∈ dep i, j ∈ ns ∧ listed.getD j false = true := fun j hj => by
        have h4 := List.all_eq_true.1 h3 j hj
        simp only [Bool.and_eq_true] at h4
        exact ⟨List.contains_iff_mem.1 h4.1, ready_after ho h4.2 hr⟩
      have h5 := hTs W hC.1 (fun j hj => (hC.2 j (hdeps j hj).1 (hdeps j hj).2).1)
      refine uponN_mono (fun v W' ⟨e0, e1, e2⟩ => ?_) h5
      refine ⟨fun j => if j = i then v else g j, fun k hk => ?_, fun k hk hl => ?_, by simp, hC.1.trans (e1.mono hC.1.size), fun k hk hl => ?_⟩
      · by_cases hki : k = i
        · subst hki; simpa using e0
        · simpa [hki] using hg k hk
      · have hki : k ≠ i := fun e => by subst e; rw [un hun] at hl; cases hl
        simp [hki]
      · by_cases hki : k = i
        · subst hki
          refine ⟨e2 _ (by simp) (fun j hj => ?_), fun j hj => getD_set_true (hdeps j hj).2⟩
          have hjk : j ≠ k := fun e => by subst e; have := (hdeps j hj).2; rw [un hun] at this; cases this
          simp [hjk]
        · rw [getD_set_ne false (Ne.symm hki)] at hl
          obtain ⟨f1, f2⟩ := hC.2 k hk hl
          refine ⟨hdp k hk g _ W' (fun j hj => ?_) (hst k hk g W W' f1 e1), fun j hj => getD_set_true (f2 j hj)⟩
          have hji : j ≠ i := fun e => by
            subst e
            rcases hj with e | hj
            · exact hki e.symm
            · have := f2 j hj; rw [un hun] at this; cases this
          simp [hji])
    _ _ a (World.drew w) g0 hg0 ⟨(Below.refl _ _).drew, fun k hk hl => by rw [getD_replicate_false] at hl; cases hl⟩ (fun g hg _ => H g hg)
  rw [htl, show n + (l.toArray.size - n) = l.toArray.size by omega] at this
  exact this
/-- the same with one fresh operation, which makes one block -/
def ΦB (b k0 : Nat) (mk : Nat → Value) (t : TypeId) (cs : Array Value) (k : Nat) (g : Nat → Value) (W : World) : Prop := k = k0 → ∃ p, g k0 = mk p ∧ Bx W p t cs ∧ b ≤ p
def VB (mk : Nat → Value) (_k : Nat) (v : Value) : Prop := ∃ p, v = mk p
theorem TS.block {P : Program} {w : World} {mk : Nat → Value} {t : TypeId} {cs : Array Value} {g : Nat → Value} {k0 : Nat} {o : Oper} {a : Act} (s : Sem Value) (hs : execOp a.eval o = (do pure (Next.value (← s)))) (hr : ∀ W, s.run P W = .ok (mk W.heap.size) (W.alloc (.cells cs t))) :
    TS P w (fun _ => []) (VB mk) (ΦB w.heap.size k0 mk t cs) g k0 (execOp a.eval o) :=
  TS.sem hs fun W hW _ => ⟨_, _, hr W, ⟨_, rfl⟩, (Below.refl _ _).alloc (Nat.le_refl _) _, fun g' hg' _ _ => ⟨_, hg', Bx.new _ _ _, hW.size⟩⟩
theorem wp_region_fblock {P : Program} {id : Nat} {Q : Exit → Act → World → Prop} {a : Act} {w : World} {l : List Oper} (n k0 : Nat) (mk : Nat → Value) (t : TypeId) (cs : Array Value) (hmk : ∀ p q, mk p = mk q → p = q)
    (hm : P.follows .mixedOrders = true) (hB : Region.lexTailB .any l.toArray n = true)
    (hnj : (([k0] : List Nat).all fun k => decide (k < n) && match l.toArray[k]? with | some o => (([] : List Nat)).all (fun j => ([k0] : List Nat).contains j && o.after.any fun e => Region.binds .any e && e.on == j) | none => false) = true)
    (h : ∀ g p, g k0 = mk p → wpM P .any l.toArray (CH w [k0] (fun _ => []) (ΦB w.heap.size k0 mk t cs) g) (fun i => ([k0] : List Nat).contains i) g (TS P w (fun _ => []) (VB mk) (ΦB w.heap.size k0 mk t cs) g)
      (fun a' => ∀ W, Below w.heap.size w W → Bx W p t cs → w.heap.size ≤ p → wpList P l.toArray Q (l.drop n) a' W) (l.take n) 0 a) : (Code.region id l.toArray true).wp P Q a w := by
  refine wp_region_ftail n [k0] (fun _ => []) (VB mk) (ΦB w.heap.size k0 mk t cs) hm hB hnj ?_ ?_ ?_ ?_
  · intro k hk g W W' h hb e
    obtain ⟨p, a1, a2, a3⟩ := h e
    exact ⟨p, a1, a2.below hb, a3⟩
  · intro k hk g g' W he h e
    obtain ⟨p, a1, a2, a3⟩ := h e
    subst e
    exact ⟨p, by rw [← he k (.inl rfl)]; exact a1, a2, a3⟩
  · intro k _; exact ⟨mk 0, 0, rfl⟩
  · intro g hV
    obtain ⟨p, hp⟩ := hV k0 (by simp)
    have h1 := h g p hp
    have mono : ∀ (r : List Oper) (k : Nat) (a' : Act), wpM P .any l.toArray (CH w [k0] (fun _ => []) (ΦB w.heap.size k0 mk t cs) g) (fun i => ([k0] : List Nat).contains i) g (TS P w (fun _ => []) (VB mk) (ΦB w.heap.size k0 mk t cs) g)
        (fun a' => ∀ W, Below w.heap.size w W → Bx W p t cs → w.heap.size ≤ p → wpList P l.toArray Q (l.drop n) a' W) r k a' → wpM P .any l.toArray (CH w [k0] (fun _ => []) (ΦB w.heap.size k0 mk t cs) g) (fun i => ([k0] : List Nat).contains i) g (TS P w (fun _ => []) (VB mk) (ΦB w.heap.size k0 mk t cs) g)
        (fun a' => ∀ W, Below w.heap.size w W → (∀ k ∈ [k0], ΦB w.heap.size k0 mk t cs k g W) → wpList P l.toArray Q (l.drop n) a' W) r k a' := by
      intro r
      induction r with
      | nil =>
        intro k a' h0 W hW hΦ
        obtain ⟨q, b1, b2, b3⟩ := hΦ k0 (by simp) rfl
        obtain rfl := hmk _ _ (hp.symm.trans b1)
        exact h0 W hW b2 b3
      | cons o r ih => intro k a' h0; obtain ⟨v, h1, h2⟩ := h0; exact ⟨v, h1, ih _ _ h2⟩
    exact mono _ _ _ h1
theorem mk_sl (n p q : Nat) (h : Value.slice (some ⟨p, 0, none⟩) n n = Value.slice (some ⟨q, 0, none⟩) n n) : p = q := by
  injection h with h; injection h with h; injection h with h
end Go.Proofs.Ytmbokdnndlnjkaa
namespace Go.Proofs.Ytmbokdnndlnjkaa
open Go.RowKit L01 L02 L05 L06 L07 L13 L14 L15 L16 L18 L19
theorem tabB_cons (b : Hb) (L : List Hb) : tabB (b :: L) = bkL b ++ tabB L := by simp [tabB]
theorem tabB_drop : ∀ (L : List Hb) (k : Nat), tabB (L.drop k) = (tabB L).drop (k * 6)
  | L, 0 => by simp
  | [], k + 1 => by simp [tabB]
  | b :: L, k + 1 => by
    rw [List.drop_succ_cons, tabB_drop L k, tabB_cons, show (k + 1) * 6 = (bkL b).length + k * 6 by simp [bkL]; omega, List.drop_append, List.drop_of_length_le (l := bkL b) (by omega), Nat.add_sub_cancel_left, List.nil_append]
theorem tabB_take : ∀ (L : List Hb) (k : Nat), tabB (L.take k) = (tabB L).take (k * 6)
  | L, 0 => by simp [tabB]
  | [], k + 1 => by simp [tabB]
  | b :: L, k + 1 => by
    rw [List.take_succ_cons, tabB_cons, tabB_take L k, tabB_cons, show (k + 1) * 6 = (bkL b).length + k * 6 by simp [bkL]; omega, List.take_append, List.take_of_length_le (l := bkL b) (by omega), Nat.add_sub_cancel_left]
theorem Blks.cut {w : World} {v : Value} {L : List Hb} (h : Blks w v L) {lo hi : Nat} (h1 : lo ≤ hi) (h2 : hi ≤ L.length) :
    ∃ v', (∀ W, (Instr.sliceAt 52 v (some (.int .i64 (lo : Int))) (some (.int .i64 (hi : Int))) none).run Try.prog W = .ok v' W) ∧ Blks w v' ((L.drop lo).take (hi - lo)) := by
  obtain ⟨v', r1, _, _, r2, _⟩ := Rd.cutN h Try.underlying52 size_block h1 h2
  refine ⟨v', r1, ?_⟩
  unfold Blks
  rw [tabB_take, tabB_drop, List.length_take, List.length_drop, Nat.min_eq_left (by omega)]
  exact r2
/-- the blocks of a list as one free extent -/
def joinB (M : List Hb) : Hb := ⟨(M.getD 0 .none).at_, sumN M, 2, 0, false, 0⟩
theorem sumN_snoc (M : List Hb) (b : Hb) : sumN (M ++ [b]) = sumN M + b.size := by
  induction M with
  | nil => simp [sumN]
  | cons c M ih => rw [List.cons_append, sumN, sumN, ih]; omega
set_option maxRecDepth 100000 in
set_option maxHeartbeats 2000000 in
theorem joined_any (v : Value) (M : List Hb) (b : Hb) (hb : b = joinB M) (hM : 0 < M.length) (hl : M.length ≤ 3) (hs : ∀ c ∈ M, 0 ≤ c.size ∧ c.size ≤ 100000) (w : World) (h : Blks w v M) :
    Calls Try.prog 104 #[v] w fun e w' => e = .returned (.agg #[.int .i64 b.at_, .int .i64 b.size, .int .i64 b.kind, .int .i64 b.ty, .bool b.mark, .int .u64 b.next.toNat]) ∧ Below w.heap.size w w' := by
  have B : Below w.heap.size w w := Below.refl _ _
  have H := Lib.hid h
  have lx := h.len
  obtain ⟨N, hN⟩ : ∃ N, N = M.length := ⟨_, rfl⟩
  rw [← hN] at lx hM hl
  obtain ⟨bb, oo, c0, ia, m0, m1, m2, m3, m4, m5, hc0, _⟩ := h.at_ (k := 0) (by omega)
  have ia0 : ∀ W, (Instr.indexAt 52 v (.int .i64 0)).run Try.prog W = .ok (.pointer (some ⟨bb, oo, none⟩)) W := ia
  obtain ⟨a0, ha0⟩ : ∃ a, a = c0.at_ := ⟨_, rfl⟩
  rw [← ha0] at m0
  have hb2 : b = ⟨a0, sumN M, 2, 0, false, 0⟩ := by
    rw [hb, joinB, List.getD_eq_getElem?_getD, hc0.out, ha0]; rfl
  have HN := Lib.hid hN; have HS := Lib.hid hs; have HB := Lib.hid hb2
  clear h hN hs hb hb2 ia hc0 ha0 m1 m2 m3 m4 m5
  go_enter Try.func104, Try.ntmps104
  go_upto_region 1 with (fail)
  refine wp_gen (fun Wv => Bx Wv (w.heap.size) (54) (#[.int .i64 0, .int .i64 0, .int .i64 0, .int .i64 0, .bool false, .int .u64 0]) ∧ Below w.heap.size w Wv) ⟨((Bx.at_ (by simp))), ((Below.refl _ w).alloc (by simp <;> omega) _)⟩ ?_
  rintro wa1 ⟨g1, b⟩
  replace m0 := cell_later b m0; replace B := B.trans (b.mono B.size); clear b
  have c_g1 := g1.cell; have f_g1 := g1.free; have a_g1 := fun o => (g1.alloc o).cell; have d_g1 := fun o o2 => ((g1.alloc o).alloc o2).cell; have e_g1 := fun o => (g1.alloc o).free
  have hp1 := g1.lt
  go_upto_region 2 with (fail)
  refine wp_gen (fun Wv => Bx Wv (wa1.heap.size) (54) (#[.int .i64 a0, .int .i64 0, .int .i64 2, .int .i64 0, .bool false, .int .u64 0]) ∧ Below wa1.heap.size wa1 Wv) ⟨((Bx.at_ (by simp))), ((Below.refl _ wa1).alloc (by simp <;> omega) _)⟩ ?_
  rintro wa2 ⟨g2, b⟩
  replace m0 := cell_later b m0; try clear c_g1 f_g1 a_g1 d_g1 e_g1
  replace g1 := g1.below b; have c_g1 := g1.cell; have f_g1 := g1.free; have a_g1 := fun o => (g1.alloc o).cell; have d_g1 := fun o o2 => ((g1.alloc o).alloc o2).cell; have e_g1 := fun o => (g1.alloc o).free; replace B := B.trans (b.mono B.size); clear b
  have c_g2 := g2.cell; have f_g2 := g2.free; have a_g2 := fun o => (g2.alloc o).cell; have d_g2 := fun o o2 => ((g2.alloc o).alloc o2).cell; have e_g2 := fun o => (g2.alloc o).free
  generalize hpp : wa1.heap.size = p2 at *
  have hpw : w.heap.size < p2 := hp1
  have HI := Lib.hid (And.intro g1 (And.intro g2 B))
  clear g1 g2 B c_g1 f_g1 a_g1 d_g1 e_g1 c_g2 f_g2 a_g2 d_g2 e_g2 m0 hpp hp1
  go_wp2
  clear ia0
  go_loopg [13] N (fun g i wr => ∃ j : Nat, j ≤ N ∧ g = N - j ∧ i = .int .i64 j ∧ Hid (∃ s : Int, s = sumN (M.take j) ∧ 0 ≤ s ∧ s ≤ 100000 * j ∧ Bx wr w.heap.size 54 #[.int .i64 0, .int .i64 0, .int .i64 0, .int .i64 0, .bool false, .int .u64 0] ∧ Bx wr p2 54 #[.int .i64 a0, .int .i64 s, .int .i64 2, .int .i64 0, .bool false, .int .u64 0] ∧ Below w.heap.size w wr))
  case atStart => exact ⟨0, by omega, by omega, rfl, Lib.hid ⟨0, by simp [sumN], by omega, by omega, HI.out⟩⟩
  case round =>
    clear HI
    obtain ⟨j, hj, rfl, rfl, hh⟩ := hrel
    obtain ⟨s, hs, hs0, hs1, g1, g2, B⟩ := hh.out
    by_cases hlt : j < N
    · obtain ⟨bb, oo, c, ia, m0, m1, m2, m3, m4, m5, hc, _⟩ := (Blks.below H.out B).at_ (k := j) (by rw [← HN.out]; exact hlt)
      obtain ⟨z1, z2⟩ := HS.out c (List.mem_of_getElem? hc.out)
      have htk : M.take (j + 1) = M.take j ++ [c] := by rw [List.take_add_one, hc.out]; rfl
      have HT := Lib.hid (show s + c.size = sumN (M.take (j + 1)) by rw [htk, sumN_snoc, ← hs])
      have hw : IntKind.i64.wrap (s + c.size) = s + c.size := IntWalk.i64_in _ (by omega)
      have hB0 := B.size
      have hlt2 := g2.lt
      clear hc htk hs hh
      go_upto_region 5 with (fail)
      refine wp_gen (fun Wv => Bx Wv (wr.heap.size) (54) (#[.int .i64 c.at_, .int .i64 c.size, .int .i64 c.kind, .int .i64 c.ty, .bool c.mark, .int .u64 c.next.toNat]) ∧ Below wr.heap.size wr Wv) ⟨((Bx.at_ (by simp))), ((Below.refl _ wr).alloc (by simp <;> omega) _)⟩ ?_
      rintro wa3 ⟨g3, b⟩
      try clear c_g1 f_g1 a_g1 d_g1 e_g1
      replace g1 := g1.below b; have c_g1 := g1.cell; have f_g1 := g1.free; have a_g1 := fun o => (g1.alloc o).cell; have d_g1 := fun o o2 => ((g1.alloc o).alloc o2).cell; have e_g1 := fun o => (g1.alloc o).free; try clear c_g2 f_g2 a_g2 d_g2 e_g2
      replace g2 := g2.below b; have c_g2 := g2.cell; have f_g2 := g2.free; have a_g2 := fun o => (g2.alloc o).cell; have d_g2 := fun o o2 => ((g2.alloc o).alloc o2).cell; have e_g2 := fun o => (g2.alloc o).free; replace B := B.trans (b.mono B.size); clear b
      have c_g3 := g3.cell; have f_g3 := g3.free; have a_g3 := fun o => (g3.alloc o).cell; have d_g3 := fun o o2 => ((g3.alloc o).alloc o2).cell; have e_g3 := fun o => (g3.alloc o).free
      have hne : p2 ≠ wr.heap.size := by omega
      have HZ := Lib.hid (And.intro g1 (And.intro g2 B))
      go_wp2
      clear c_g1 f_g1 a_g1 d_g1 e_g1 c_g2 f_g2 a_g2 d_g2 e_g2 c_g3 f_g3 a_g3 d_g3 e_g3 m0 m1 m2 m3 m4 m5 ia
      go_roundg (N - (j + 1))
      case measure => omega
      case rel =>
        obtain ⟨g1, g2, B⟩ := HZ.out
        refine ⟨j + 1, by omega, rfl, by go_num, Lib.hid ⟨s + c.size, HT.out, by omega, by omega, g1.far (p := ⟨p2, 1, none⟩) (by show w.heap.size ≠ p2; omega) _, ?_, B.setCell (p := ⟨p2, 1, none⟩) (by show w.heap.size ≤ p2; omega) _⟩⟩
        have := g2.set (i := 1) (.int .i64 (s + c.size))
        simpa using this
    · obtain rfl : j = N := by omega
      have hsM : s = sumN M := by rw [hs, HN.out, List.take_length]
      have c_g1 := g1.cell; have f_g1 := g1.free; have c_g2 := g2.cell
      have HSM := Lib.hid hsM
      clear hs hsM hh
      go_wp2
      refine bodyPost_ret (v := .agg #[.int .i64 a0, .int .i64 s, .int .i64 2, .int .i64 0, .bool false, .int .u64 0]) (by simp [results, Try.results104, go_sem, c_g1, f_g1]) rfl ?_
      refine ⟨by rw [HB.out, HSM.out]; rfl, ?_⟩
      (repeat (first | refine Below.setCell ?_ (by first | exact Nat.le_refl _ | (simp <;> omega)) _ | refine Below.alloc ?_ (by first | exact B.size | (have := B.size; simp <;> omega)) _)); exact B
/-- what becomes of an object, by the joined blocks -/
theorem join_becomes {L : List Hb} {i : Nat} {b : Hb} (hb : L[i]? = some b) (hk : b.kind = 1) (lo hi : Nat) (hlo : lo = if lowF L i = true then i - 1 else i) (hhi : hi = if highF L i = true then i + 1 else i) :
    joinB ((L.drop lo).take (hi + 1 - lo)) = becomes L i ∧ lo ≤ i ∧ i ≤ hi ∧ hi < L.length ∧ hi + 1 - lo ≤ 3 := by
  have hil := (List.getElem?_eq_some_iff.1 hb).1
  have hgb : L.getD i .none = b := by rw [List.getD_eq_getElem?_getD, hb]; rfl
  have hlow : lowF L i = true → 0 < i ∧ ∃ f, L[i - 1]? = some f ∧ L.getD (i - 1) .none = f := fun h => by
    unfold lowF at h
    rw [Bool.and_eq_true, decide_eq_true_iff] at h
    have : i - 1 < L.length := by omega
    exact ⟨h.1, L[i - 1], List.getElem?_eq_getElem this, by rw [List.getD_eq_getElem?_getD, List.getElem?_eq_getElem this]; rfl⟩
  have hhigh : highF L i = true → i + 1 < L.length ∧ ∃ f, L[i + 1]? = some f ∧ L.getD (i + 1) .none = f := fun h => by
    unfold highF at h
    rw [decide_eq_true_iff] at h
    by_cases hl : i + 1 < L.length
    · exact ⟨hl, L[i + 1], List.getElem?_eq_getElem hl, by rw [List.getD_eq_getElem?_getD, List.getElem?_eq_getElem hl]; rfl⟩
    · rw [List.getD_eq_getElem?_getD, List.getElem?_eq_none (by omega)] at h
      exact absurd h (by decide)
  have d1 : ∀ {k : Nat} {c : Hb}, L[k]? = some c → L.drop k = c :: L.drop (k + 1) := fun {k c} h => by
    obtain ⟨h1, h2⟩ := List.getElem?_eq_some_iff.1 h
    rw [List.drop_eq_getElem_cons h1, h2]
  cases h1 : lowF L i <;> cases h2 : highF L i
  · rw [h1] at hlo; rw [h2] at hhi
    simp only [Bool.false_eq_true, if_false] at hlo hhi
    subst hlo; subst hhi
    refine ⟨?_, by omega, by omega, by omega, by omega⟩
    rw [show hi + 1 - hi = 1 by omega, d1 hb]
    unfold becomes
    rw [h1, h2, hgb]
    simp [joinB, sumN]
  · rw [h1] at hlo; rw [h2] at hhi
    simp only [Bool.false_eq_true, if_false, if_true] at hlo hhi
    obtain ⟨a1, f, a2, a3⟩ := hhigh h2
    subst hlo; subst hhi
    refine ⟨?_, by omega, by omega, by omega, by omega⟩
    rw [show lo + 1 + 1 - lo = 2 by omega, d1 hb, d1 a2]
    unfold becomes
    rw [h1, h2, hgb, a3]
    simp [joinB, sumN]
  · rw [h1] at hlo; rw [h2] at hhi
    simp only [Bool.false_eq_true, if_false, if_true] at hlo hhi
    obtain ⟨a1, f, a2, a3⟩ := hlow h1
    subst hlo; subst hhi
    refine ⟨?_, by omega, by omega, by omega, by omega⟩
    rw [show hi + 1 - (hi - 1) = 2 by omega, d1 a2, show hi - 1 + 1 = hi by omega, d1 hb]
    unfold becomes
    rw [h1, h2, hgb, a3]
    simp [joinB, sumN]; omega
  · rw [h1] at hlo; rw [h2] at hhi
    simp only [if_true] at hlo hhi
    obtain ⟨a1, f, a2, a3⟩ := hlow h1
    obtain ⟨a4, f', a5, a6⟩ := hhigh h2
    subst hlo; subst hhi
    refine ⟨?_, by omega, by omega, by omega, by omega⟩
    rw [show i + 1 + 1 - (i - 1) = 3 by omega, d1 a2, show i - 1 + 1 = i by omega, d1 hb, d1 a5]
    unfold becomes
    rw [h1, h2, hgb, a3, a6]
    simp [joinB, sumN]; omega
end Go.Proofs.Ytmbokdnndlnjkaa
namespace Go.Proofs.Ytmbokdnndlnjkaa
open Go.RowKit L01 L02 L05 L06 L07 L13 L14 L15 L16 L18 L19
set_option maxRecDepth 100000 in
set_option maxHeartbeats 2000000 in
theorem Words16_any (v : Value) (l : List UInt64) (n r : Int) (hn : n = sumE l) (hr : r = allErr l) (w : World) (h : Words w v l) :
    Calls Try.prog 38 #[v] w fun e w' => ∃ x : Int, e = .returned (.tuple #[.int .i64 n, .int .i64 x, .int .i64 r]) ∧ Below w.heap.size w w' := by
  have B : Below w.heap.size w w := Below.refl _ _
  have H := Lib.hid h
  obtain ⟨F, hF⟩ : ∃ F, F = freeL l := ⟨_, rfl⟩
  have FT := Lib.hid (fun w h => FreeW_any v l F r hF hr w h)
  by_cases h0 : r = 0
  case neg =>
    obtain rfl : n = 0 := by rw [hn, sumE, if_neg (by rw [← hr]; exact h0)]
    have n1 : (r != 0) = true := by rw [bne_iff_ne]; exact h0
    clear h hn hr hF h0
    go_enter Try.func38, Try.ntmps38
    go_wp2_with fail
    refine (FT.out _ (H.out.below B)).mono ?_
    rintro e wa1 ⟨xl, rfl, ol, b⟩
    replace B := B.trans (b.mono B.size); clear b
    go_wp2
    go_ret3
    exact ⟨_, rfl, B⟩
  case pos =>
    subst h0
    have hn2 : n = sumN F := by rw [hn, sumE, if_pos hr.symm, hF]
    have hs : ∀ c ∈ F, 0 ≤ c.size ∧ c.size ≤ 2000 := fun c hc => by
      rw [hF] at hc
      obtain ⟨a, h1, h2, h3, h4, _⟩ := all_mem hr.symm (free_mem.1 hc).1
      have := (stand_ok h3).bounds
      rw [← h4] at this
      omega
    have hl9 : F.length ≤ 960 := by rw [hF]; exact Nat.le_trans (List.length_filter_le _ _) (all_len hr.symm)
    obtain ⟨N, hN⟩ : ∃ N, N = F.length := ⟨_, rfl⟩
    have hN9 : N ≤ 960 := by omega
    have HN := Lib.hid hN; have HS := Lib.hid hs; have HR := Lib.hid hn2
    clear h hn hr hF hs hl9 hN hn2
    go_enter Try.func38, Try.ntmps38
    go_wp2_with fail
    refine (FT.out _ (H.out.below B)).mono ?_
    rintro e wa1 ⟨xl, rfl, ol, b⟩
    replace B := B.trans (b.mono B.size); clear b
    have lx := ol.rd.len
    rw [← HN.out] at lx
    have HO := Lib.hid ol.rd
    have hB1 := B.size
    have HB := Lib.hid B
    have HBB := Lib.hid (Below.refl wa1.heap.size wa1)
    clear ol B
    go_wp2
    clear lx
    go_loopg [2, 3, 18] N (fun g sv mv i wr => ∃ j : Nat, ∃ mx : Int, j ≤ N ∧ g = N - j ∧ sv = .int .i64 (sumN (F.take j)) ∧ mv = .int .i64 mx ∧ i = .int .i64 j ∧ Hid (Below wa1.heap.size wa1 wr))
    case atStart => exact ⟨0, 0, by omega, by omega, rfl, rfl, rfl, HBB⟩
    case round =>
      obtain ⟨j, mx, hj, rfl, rfl, rfl, rfl, hh⟩ := hrel
      clear HBB
      have B2 := hh.out
      clear hh
      by_cases hlt : j < N
      · obtain ⟨bb, oo, c, ia, m0, m1, m2, m3, m4, m5, hc, _⟩ := (Blks.below HO.out B2).at_ (k := j) (by rw [← HN.out]; exact hlt)
        obtain ⟨z1, z2⟩ := HS.out c (List.mem_of_getElem? hc.out)
        have htk : F.take (j + 1) = F.take j ++ [c] := by rw [List.take_add_one, hc.out]; rfl
        obtain ⟨s, hs⟩ : ∃ s, s = sumN (F.take j) := ⟨_, rfl⟩
        have hsb : 0 ≤ s ∧ s ≤ 2000 * j := by
          rw [hs]
          exact sum_bound (fun c hc => HS.out c (List.mem_of_mem_take hc)) (by rw [List.length_take]; omega)
        rw [← hs]
        have HT := Lib.hid (show sumN (F.take (j + 1)) = s + c.size by rw [htk, sumN_snoc, ← hs])
        have hw : IntKind.i64.wrap (s + c.size) = s + c.size := IntWalk.i64_in _ (by omega)
        have B := HB.out.trans (B2.mono hB1)
        clear hc htk hs hsb
        go_upto_region 7 with (fail)
        refine wp_gen (fun Wv => Bx Wv (wr.heap.size) (54) (#[.int .i64 c.at_, .int .i64 c.size, .int .i64 c.kind, .int .i64 c.ty, .bool c.mark, .int .u64 c.next.toNat]) ∧ Below wr.heap.size wr Wv) ⟨((Bx.at_ (by simp))), ((Below.refl _ wr).alloc (by simp <;> omega) _)⟩ ?_
        rintro wa2 ⟨g3, b⟩
        replace B2 := B2.trans (b.mono B2.size); replace B := B.trans (b.mono B.size); clear b
        have c_g3 := g3.cell; have f_g3 := g3.free; have a_g3 := fun o => (g3.alloc o).cell; have d_g3 := fun o o2 => ((g3.alloc o).alloc o2).cell; have e_g3 := fun o => (g3.alloc o).free
        have HZ := Lib.hid B2
        clear B B2
        go_wp2
        all_goals
          go_roundg (N - (j + 1))
          case measure => omega
          case rel => exact ⟨j + 1, _, by omega, rfl, by rw [HT.out], rfl, by go_num, HZ⟩
      · obtain rfl : j = N := by omega
        have hfin : sumN (F.take j) = n := by rw [HR.out, HN.out, List.take_length]
        rw [hfin]
        have B := HB.out.trans (B2.mono hB1)
        clear hfin B2
        go_wp2
        go_ret3
        exact ⟨_, rfl, B⟩
end Go.Proofs.Ytmbokdnndlnjkaa
namespace Go.Proofs.Ytmbokdnndlnjkaa
open Go.RowKit L02 L07 L14 L15
set_option maxRecDepth 100000 in
set_option maxHeartbeats 4000000 in
theorem Ordered_any (v ev : Value) (l : List UInt64) (E : List (Int × UInt64)) (hE : ∀ (j : Nat) e, E[j]? = some e → 96 ≤ e.1 ∧ e.1 < l.length ∧ e.1 ≤ 100000) (hO : ∀ (j : Nat) e f, E[j]? = some e → E[j + 1]? = some f → e.1 < f.1) (hm : E.length ≤ 12) (w : World) (h : Words w v l) (he : Ents w ev E) :
    Calls Try.prog 30 #[v, ev, .int .i64 12] w fun e w' => e = .returned (.bool true) ∧ Below w.heap.size w w' := by
  have B : Below w.heap.size w w := Below.refl _ _
  have ll := Rd.len h Try.underlying22
  have le := Rd.len he Try.underlying30
  obtain ⟨N, hN⟩ : ∃ N, N = E.length := ⟨_, rfl⟩
  obtain ⟨LL, hLL⟩ : ∃ N, N = l.length := ⟨_, rfl⟩
  rw [← hN] at le hm
  rw [← hLL] at ll hE
  have HN := Lib.hid hN; have HE := Lib.hid hE; have HO := Lib.hid hO; have HR := Lib.hid he
  clear h he hE hO hN hLL
  have HB := Lib.hid B
  go_enter Try.func30, Try.ntmps30
  go_wp2
  go_loopg [7] N (fun g i wr => ∃ j : Nat, j ≤ N ∧ g = N - j ∧ i = .int .i64 j ∧ Hid (Below w.heap.size w wr))
  case atStart => exact ⟨0, by omega, by omega, rfl, HB⟩
  case round =>
    obtain ⟨j, hj, rfl, rfl, hh⟩ := hrel
    clear HB B
    by_cases hlt : j < N
    · obtain ⟨b, o, a, x, ia, m1, m2, hx⟩ := (Ents.below HR.out hh.out).at_ (k := j) (by rw [← HN.out]; exact hlt)
      obtain ⟨e1, e2, e3⟩ := HE.out j _ hx.out
      dsimp only at e1 e2 e3
      have t1 : decide (a < 16) = false := decide_eq_false (by omega)
      have t2 : decide (24 ≤ a) = true := decide_eq_true (by omega)
      have t3 : decide (a < 96) = false := decide_eq_false (by omega)
      have t4 : decide ((LL : Int) ≤ a) = false := decide_eq_false (by omega)
      clear m2
      by_cases hj0 : j = 0
      · have t5 : decide (0 < j) = false := decide_eq_false (by omega)
        clear hx e1 e2 e3 hj0
        go_wp2
        go_roundg (N - (j + 1))
        case measure => omega
        case rel => exact ⟨j + 1, by omega, rfl, by go_num, hh⟩
      · obtain ⟨i, hi⟩ : ∃ i, j = i + 1 := ⟨j - 1, by omega⟩
        obtain ⟨b', o', a', x', ia', m3, m4, hx'⟩ := (Ents.below HR.out hh.out).at_ (k := i) (by rw [← HN.out]; omega)
        have hx2 := hx.out
        rw [hi] at hx2
        have e4 := HO.out i _ _ hx'.out hx2
        dsimp only at e4
        have t5 : decide (0 < j) = true := decide_eq_true (by omega)
        have t6 : decide (a ≤ a') = false := decide_eq_false (by omega)
        have wi : IntKind.i64.wrap ((j : Int) - 1) = (i : Int) := by rw [show (j : Int) - 1 = (i : Int) by omega]; exact IntWalk.i64_in _ (by omega)
        clear hx hx' hx2 e1 e2 e3 e4 m4 hj0 hi
        go_wp2
        go_roundg (N - (j + 1))
        case measure => omega
        case rel => exact ⟨j + 1, by omega, rfl, by go_num, hh⟩
    · obtain rfl : j = N := by omega
      have B := hh.out
      have t1 : decide ((j : Int) ≤ 12) = true := decide_eq_true (by omega)
      go_wp2
      go_ret
      exact ⟨rfl, B⟩
end Go.Proofs.Ytmbokdnndlnjkaa
namespace Go.Proofs.Ytmbokdnndlnjkaa
open Go.RowKit Go.Maps L02 L13 L18 L20
/-- .. that has just n entries, those whose keys K tells -/
def MapN (P : Program) (k e : TypeId) (z0 : Lit) (W : World) (g n : Nat) (f : Int → Lit) (K : Int → Bool) : Prop :=
  ∃ D : DataW Unit, W.ownsMap P k (plainElem P e) g n D ∧ (∀ a, D.atKey (.int .i64 a) (.lit z0) = .lit (f a)) ∧ size D = n ∧ ∀ a, has D (.int .i64 a) = K a
section
variable {P : Program} {k e : TypeId} {z0 : Lit} {W : World} {g n : Nat} {f : Int → Lit} {K : Int → Bool}
theorem MapN.made (W : World) : MapN P k e z0 (W.alloc (.map #[] 0)) W.heap.size 0 (fun _ => z0) (fun _ => false) :=
  ⟨.map [], World.ownsMap_made W P k _, fun a => rfl, rfl, fun a => rfl⟩
theorem MapN.kept {W' : World} {row : Option Nat} (h : MapN P k e z0 W g n f K) (hg : W.grownBy W' row) (hne : some g ≠ row) : MapN P k e z0 W' g n f K := by
  obtain ⟨D, h1, h2⟩ := h; exact ⟨D, h1.kept hg hne, h2⟩
theorem MapN.below {W' : World} (h : MapN P k e z0 W g n f K) (hb : Below W.heap.size W W') : MapN P k e z0 W' g n f K := by
  obtain ⟨D, ⟨es, clock, hh, F, hs, hD⟩, h2⟩ := h
  exact ⟨D, ⟨es, clock, (hb.block g (Array.getElem?_eq_some_iff.1 hh).1).trans hh, F, hs, hD⟩, h2⟩
theorem MapL.block (h : MapL P k e z0 W g n f) : ∃ es clock, W.heap[g]? = some (.map es clock) := by
  obtain ⟨D, ⟨es, clock, hh, _⟩, _⟩ := h; exact ⟨es, clock, hh⟩
theorem MapN.len {t : TypeId} (h : MapN P k e z0 W g n f K) (ht : P.underlying t = some (.map k e)) : ∀ ty, (Builtin.len_ #[t] ty #[.map (some g)]).run P W = .ok (.int .i64 (n : Int)) W := by
  obtain ⟨D, h1, _, h3, _⟩ := h
  intro ty
  rw [h1.len ht ty, h3]
theorem MapN.put {t : TypeId} (h : MapN P k e z0 W g n f K) (hk : P.underlying k = some (.int .i64)) (ht : P.underlying t = some (.map k e)) (hn : n < maxLen) {a : Int} (ha : i64Ok a) (hK : K a = false) {v : Value} {l : Lit} (hv : plainElem (H := Unit) P e v = some (.lit l, [])) :
    ∃ W', (Instr.mapUpdate t (.map (some g)) (.int .i64 a) v).run P W = .ok () W' ∧ MapN P k e z0 W' g (n + 1) (fun b => if b = a then l else f b) (fun b => decide (b = a) || K b) ∧ W.grownBy W' (some g) := by
  obtain ⟨D, h1, h2, h3, h4⟩ := h
  obtain ⟨W', r1, r2, r3⟩ := h1.update (int_keyed hk) ht hn (keyOf_int_mk hk (lit_wf ha)) hv
  refine ⟨W', r1, ⟨_, r2, fun b => ?_, ?_, fun b => ?_⟩, r3⟩
  · by_cases hb : b = a
    · subst hb
      show _ = DataW.lit (if b = b then l else f b)
      rw [if_pos rfl]
      exact atKey_put_same (h1.isMap) ((int_keyed hk).key (keyOf_int_mk hk (lit_wf ha))) _ _
    · show _ = DataW.lit (if b = a then l else f b)
      rw [if_neg hb, atKey_put_other (by intro e; injection e with _ e; exact hb e), h2]
  · rw [size_put (h1.tidy (int_keyed hk)), h4, hK, h3]; rfl
  · by_cases hb : b = a
    · subst hb
      rw [has_put_same h1.isMap ((int_keyed hk).key (keyOf_int_mk hk (lit_wf ha)))]; simp
    · rw [has_put_other (by intro e; injection e with _ e; exact hb e), h4]; simp [hb]
end
end Go.Proofs.Ytmbokdnndlnjkaa
namespace Go.Proofs.Ytmbokdnndlnjkaa
open Go.RowKit L01 L02 L05 L06 L07 L13 L14 L15 L18 L19 L20
theorem All18_own (v : Value) (l : List UInt64) (L : List Sl) (hL : L = slots l) (h0 : openErr l = 0) (w : World) (h : Words w v l) :
    Calls Try.prog 29 #[v] w fun e w' => ∃ x, e = .returned (.tuple #[x, .int .i64 0]) ∧ OwnS w' w.heap.size 110 x L ∧ Below w.heap.size w w' := by
  have B : Below w.heap.size w w := Below.refl _ _
  obtain ⟨V, hV⟩ : ∃ V, V = tab (tabOf l) := ⟨_, rfl⟩
  have HOT := Lib.hid (fun w h => open_any v l V hV 0 h0.symm w h); have H := Lib.hid h; clear h
  have hVs : V.size = 48 := by rw [hV]; exact tabOf_size l
  have hV1 : V.all (·.oneCell') = true := by rw [hV]; exact tab_one _
  have hVL : V = tab L := by rw [hV, tabOf_ok h0, hL]
  have hL16 : L.length = 16 := by rw [hL]; exact slots16 h0
  have HVs := Lib.hid hVs; have HV1 := Lib.hid hV1; have HVL := Lib.hid hVL; have HL16 := Lib.hid hL16
  clear h0 hVs hV1 hVL hL16 hV hL
  go_enter Try.func29, Try.ntmps29
  go_wp2_with fail
  refine (HOT.out _ (H.out.below B)).mono ?_
  rintro e w' ⟨rfl, b⟩
  replace B := B.trans (b.mono B.size); clear b
  go_wp2_with ((with_reducible refine at_store 110 4 9 ?_); refine wpList_storeNew rfl _ _ _ rfl rfl V rfl rfl (by rw [HVs.out]; exact size_table) (by rw [HVs.out]; rfl) HV1.out ?_; intro W q1 b1)
  go_ret2
  exact ⟨_, rfl, q1.ownS B.size HVL.out HL16.out, B.trans (b1.mono B.size)⟩
/-- one more object at the end of a model's objects: all else is kept -/
structure PushO (wr W' w : World) (B0 p : Nat) (v xt ys : Value) (L : List Ob) (o : Ob) : Prop where
  own : OwnO W' B0 v (L ++ [o])
  md : Bx W' p 85 #[xt, v, ys]
  below : Below B0 w W'
  row : ∀ {B e sz n : Nat} {x : Value} {xs : List Value}, wr.ownsRow B e sz x n xs → e ≠ 135 → e ≠ 85 → W'.ownsRow B e sz x n xs
  bx : ∀ {q : Nat} {t : TypeId} {cs : Array Value}, Bx wr q t cs → q ≠ p → 135 ≠ t → Bx W' q t cs
  map : ∀ {k e : TypeId} {z0 : Lit} {g n : Nat} {f : Int → Lit} {K : Int → Bool}, MapN Try.prog k e z0 wr g n f K → MapN Try.prog k e z0 W' g n f K
theorem PushO.t {wr W' w : World} {B0 p : Nat} {v xt ys : Value} {L : List Ob} {o : Ob} (h : PushO wr W' w B0 p v xt ys L o) {B : Nat} {x : Value} {T : List (List UInt8)} (hT : OwnT wr B x T) : OwnT W' B x T := by
  obtain ⟨vs, a1, a2, a4⟩ := hT
  exact ⟨vs, a1, h.row a2 (by decide) (by decide), fun i x l h5 h6 => h.row (a4 i x l h5 h6) (by decide) (by decide)⟩
theorem inKinds {l : List UInt64} (rt : Rt l) {b : Hb} (hb : b ∈ O19 l) : ∃ (a q : Nat) (t : List UInt8), b.at_ = a ∧ b.ty = q ∧ (T19 l)[q]? = some t ∧ kindsB (T19 l) b = t ∧ 128 ≤ a ∧ a ≤ 2048 ∧ a + 2 + t.length ≤ l.length ∧ t.length ≤ 8 := by
  have hty : Typed (T19 l) b := rt.good 8 (by omega) (by omega) b hb
  obtain ⟨a, q, t, ha, hq, hTq, hkB, _, hle, _⟩ := in_kinds (in19_of rt.al hb) hty
  have hkE : kErr t = 0 := (T19_ok rt.ty).2 t (List.mem_of_getElem? hTq)
  obtain ⟨a', h1, h2, h3, h4, _⟩ := objs_at rt.al hb
  have := rt.sz.2.1
  exact ⟨a, q, t, ha, hq, hTq, hkB, by omega, by omega, hle, (kErr_ok hkE).1⟩
end Go.Proofs.Ytmbokdnndlnjkaa
namespace Go.Proofs.Ytmbokdnndlnjkaa
open Go Go.RowKit
def Φ1 (k0 : Nat) (Ψ0 : Value → World → Prop) (k : Nat) (g : Nat → Value) (W : World) : Prop := k = k0 → Ψ0 (g k0) W
def V1 (k0 : Nat) (V0 : Value → Prop) (k : Nat) (v : Value) : Prop := k = k0 → V0 v
def dep1 (_k : Nat) : List Nat := []
theorem wp_region_f1 {P : Program} {id : Nat} {Q : Exit → Act → World → Prop} {a : Act} {w : World} {l : List Oper} (n k0 : Nat) (V0 : Value → Prop) (Ψ0 : Value → World → Prop) (e0 : ∃ v, V0 v)
    (hst0 : ∀ v W W', Ψ0 v W → Below W.heap.size W W' → Ψ0 v W')
    (hm : P.follows .mixedOrders = true) (hB : Region.lexTailB .any l.toArray n = true)
    (hnj : (([k0] : List Nat).all fun k => decide (k < n) && match l.toArray[k]? with | some o => (dep1 k).all (fun j => ([k0] : List Nat).contains j && o.after.any fun e => Region.binds .any e && e.on == j) | none => false) = true)
    (h : ∀ g, V0 (g k0) → wpM P .any l.toArray (CH w [k0] dep1 (Φ1 k0 Ψ0) g) (fun i => ([k0] : List Nat).contains i) g (TS P w dep1 (V1 k0 V0) (Φ1 k0 Ψ0) g)
      (fun a' => ∀ W, Below w.heap.size w W → Ψ0 (g k0) W → wpList P l.toArray Q (l.drop n) a' W) (l.take n) 0 a) : (Code.region id l.toArray true).wp P Q a w := by
  refine wp_region_ftail n [k0] dep1 (V1 k0 V0) (Φ1 k0 Ψ0) hm hB hnj ?_ ?_ ?_ ?_
  · intro k hk g W W' h hb e
    exact hst0 _ _ _ (h e) hb
  · intro k hk g g' W he h e
    subst e; rw [← he k (.inl rfl)]; exact h rfl
  · intro k _
    obtain ⟨v0, h0⟩ := e0
    exact ⟨v0, fun _ => h0⟩
  · intro g hV
    have h1 := h g (hV k0 (by simp) rfl)
    have mono : ∀ (C : Array Bool → World → Prop) (nn : Nat → Bool) (T : Nat → Sem Next → Prop) (r : List Oper) (k : Nat) (a' : Act), wpM P .any l.toArray C nn g T
        (fun a' => ∀ W, Below w.heap.size w W → Ψ0 (g k0) W → wpList P l.toArray Q (l.drop n) a' W) r k a' → wpM P .any l.toArray C nn g T
        (fun a' => ∀ W, Below w.heap.size w W → (∀ k ∈ [k0], Φ1 k0 Ψ0 k g W) → wpList P l.toArray Q (l.drop n) a' W) r k a' := by
      intro C nn T r
      induction r with
      | nil =>
        intro k a' h0 W hW hΦ
        exact h0 W hW (hΦ k0 (by simp) rfl)
      | cons o r ih => intro k a' h0; obtain ⟨v, h1, h2⟩ := h0; exact ⟨v, h1, ih _ _ h2⟩
    exact mono _ _ _ _ _ _ h1
end Go.Proofs.Ytmbokdnndlnjkaa
namespace Go.Proofs.Ytmbokdnndlnjkaa.L19
open L02 L05 L06 L07 L13 L14 L15 L16 L18 L20
/-- the example with so many objects -/
def anI : Nat → List UInt64
  | 0 => ex22
  | i + 1 => made (anI i) (aiL (anI i) 0)
theorem anI_len : ∀ i, (anI i).length = 256
  | 0 => ex22_len
  | i + 1 => by rw [anI, made_len, anI_len i]
def AnOk (l : List UInt64) (i : Nat) : Prop := aiE l 0 = 0 ∧ aiS l 0 = (i : Int) ∧ aiG l 0 = 1 ∧ (aiL l 0).length = 6 ∧ ((aiL l 0).map (·.1))[1]? = some (128 + 4 * (i : Int))
instance (l : List UInt64) (i : Nat) : Decidable (AnOk l i) := inferInstanceAs (Decidable (_ ∧ _))
/-- the images, one behind the other -/
def anAll : Nat → Nat → List UInt64 → Bool
  | 0, i, l => decide (aiE l 0 = 23)
  | n + 1, i, l => decide (AnOk l i) && anAll n (i + 1) (made l (aiL l 0))
theorem anAll_get : ∀ (n i : Nat), anAll n i (anI i) = true → (∀ j, i ≤ j → j < i + n → AnOk (anI j) j) ∧ aiE (anI (i + n)) 0 = 23
  | 0, i, h => ⟨fun j h1 h2 => by omega, of_decide_eq_true h⟩
  | n + 1, i, h => by
    rw [anAll, Bool.and_eq_true] at h
    obtain ⟨h1, h2⟩ := anAll_get n (i + 1) h.2
    refine ⟨fun j h3 h4 => ?_, by rw [show i + (n + 1) = i + 1 + n by omega]; exact h2⟩
    by_cases e : j = i
    · subst e; exact of_decide_eq_true h.1
    · exact h1 j (by omega) (by omega)
theorem an_all : anAll 16 0 ex22 = true := by decide +kernel
theorem an_ok : (∀ j, j < 16 → AnOk (anI j) j) ∧ aiE (anI 16) 0 = 23 := by
  have := anAll_get 16 0 an_all
  exact ⟨fun j h => this.1 j (by omega) (by omega), this.2⟩
theorem ex22_errs : aiE ex22 1 = 2 ∧ aiE ex22 (-1) = 2 ∧ aiE (ex22.take 255) 0 = 8 ∧ aiE (List.replicate 256 0) 9 = 50 := by decide +kernel
/-- a heap with one extent of 4 words -/
def anL : List Hb := List.replicate 31 (objB 0 4 false) ++ [freeB 4]
def anF : List UInt64 := putW ex22 128 ((laid 256 anL).drop 128)
def anX : List UInt64 := made anF (aiL anF 0)
/-- slots written, as far as j -/
def anS (l : List UInt64) : Nat → List UInt64
  | 0 => l
  | j + 1 => (anS l j).set (112 + j) (pk ⟨1, true, 128⟩)
theorem anS_len (l : List UInt64) : ∀ j, (anS l j).length = l.length
  | 0 => rfl
  | j + 1 => by rw [anS, List.length_set, anS_len l j]
def anY : List UInt64 := anS anX 16
theorem anF_len : anF.length = 256 ∧ anX.length = 256 ∧ anY.length = 256 := by
  have h1 : anF.length = 256 := by rw [anF, putW_len, ex22_len]
  have h2 : anX.length = 256 := by rw [anX, made_len, h1]
  exact ⟨h1, h2, by rw [anY, anS_len, h2]⟩
theorem anF_ok : aiE anF 0 = 0 ∧ (aiL anF 0).length = 5 ∧ ((aiL anF 0).map (·.1))[1]? = some 252 := by decide +kernel
theorem anX_err : aiE anX 0 = 20 := by decide +kernel
theorem anY_err : aiE anY 0 = 23 := by decide +kernel
end Go.Proofs.Ytmbokdnndlnjkaa.L19
