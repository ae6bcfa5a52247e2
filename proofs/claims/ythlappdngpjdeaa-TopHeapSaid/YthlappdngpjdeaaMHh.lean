/- Contracts of the functions that the laws 'H' reach, part 8. No condition. -/
import Derived.Test.YthlappdngpjdeaaMHg
set_option linter.unusedVariables false
set_option linter.unusedSimpArgs false
namespace Go.Proofs.Ythlappdngpjdeaa
open Go.RowKit L01 L02 L05 L07 L13 L14 L15 L18 L19
theorem OwnT.apart {w : World} {B p i : Nat} {v u : Value} {L : List (List UInt8)} (h : OwnT w B v L) (hp : p < B) : OwnT (w.setCell ⟨p, i, none⟩ u) B v L := by
  obtain ⟨vs, a1, a2, a4⟩ := h
  exact ⟨vs, a1, own_apart a2 hp, fun i x l h5 h6 => own_apart (a4 i x l h5 h6) hp⟩
theorem OwnT.mid {w w' : World} {lo : Nat} {v : Value} {L : List (List UInt8)} (h : OwnT w lo v L) (hm : Mid lo w.heap.size w w') : OwnT w' lo v L := by
  obtain ⟨vs, a1, a2, a4⟩ := h
  exact ⟨vs, a1, own_mid a2 hm, fun i x l h5 h6 => own_mid (a4 i x l h5 h6) hm⟩
theorem OwnT.form {w : World} {B : Nat} {v : Value} {L : List (List UInt8)} (h : OwnT w B v L) : ∃ A n c, v = .slice A n c := by
  obtain ⟨_, _, h2, _⟩ := h
  obtain ⟨A, c, e, _⟩ := Rd.of_own h2; exact ⟨A, _, c, e⟩
/-- the blocks that the walk of parts has made stay -/
structure MidS (lo : Nat) (ws w : World) : Prop where
  m : Mid lo ws.heap.size ws w
  z : ws.heap.size ≤ w.heap.size
theorem MidS.below {lo : Nat} {ws w w' : World} (h : MidS lo ws w) (hb : Below w.heap.size w w') : MidS lo ws w' := ⟨h.m.below h.z hb, Nat.le_trans h.z hb.size⟩
theorem MidS.grown {lo : Nat} {ws w w' : World} {row : Option Nat} (h : MidS lo ws w) (hg : w.grownBy w' row) (hr : ∀ k, row = some k → k < lo ∨ ws.heap.size ≤ k) : MidS lo ws w' := ⟨h.m.grown h.z hg hr, Nat.le_trans h.z hg.size⟩
theorem MidS.set {lo : Nat} {ws w : World} (h : MidS lo ws w) {p : Addr} (hp : p.block < lo) (u : Value) : MidS lo ws (w.setCell p u) := ⟨h.m.set (.inl hp) u, by simpa [World.setCell] using h.z⟩
/-- what is known while parts fills its result -/
structure SgO (W : World) (base lo : Nat) (v tv sv bv : Value) (E pm nm : Nat) (l : List UInt64) (T : List (List UInt8)) (S : List Sl) (O : List Hb) (w0 : World) : Prop where
  b : Below w0.heap.size w0 W
  t : OwnT W lo tv T
  s : W.ownsRow lo E 3 sv S.length (tabL S)
  k : OwnK W base bv O
  kn : bv.ownBlock ≠ some w0.heap.size
  m : MapL Try.prog 3 4 (.bool false) W pm nm (fun a => .bool (decide (IsObj O a)))
theorem SgO.set {W w0 : World} {base lo E pm nm i : Nat} {v tv sv bv u : Value} {l : List UInt64} {T : List (List UInt8)} {S : List Sl} {O : List Hb} (h : SgO W base lo v tv sv bv E pm nm l T S O w0) (hp : w0.heap.size < lo) (hm : w0.heap.size ≠ pm) : SgO (W.setCell ⟨w0.heap.size, i, none⟩ u) base lo v tv sv bv E pm nm l T S O w0 :=
  ⟨h.b.setCell (p := ⟨w0.heap.size, i, none⟩) (Nat.le_refl _) _, h.t.apart hp, own_apart h.s hp, World.ownsRow.kept h.k (grown_set _ ⟨w0.heap.size, i, none⟩ u) (.inr h.kn), h.kn, h.m.kept (grown_set _ ⟨w0.heap.size, i, none⟩ u) (by intro e; injection e with e; exact hm e.symm)⟩
theorem SgO.sg {W w0 : World} {base lo E pm nm : Nat} {v tv sv bv : Value} {l : List UInt64} {T : List (List UInt8)} {S : List Sl} {O : List Hb} (h : SgO W base lo v tv sv bv E pm nm l T S O w0) (hw : Words w0 v l) : Sg W v tv sv bv pm nm l T S O :=
  ⟨hw.below h.b, h.t.rd, Rd.of_own h.s, h.k.rd, h.m⟩
end Go.Proofs.Ythlappdngpjdeaa
namespace Go.Proofs.Ythlappdngpjdeaa
open Go.RowKit L01 L02 L05 L07 L13 L14 L15 L18 L19
end Go.Proofs.Ythlappdngpjdeaa
namespace Go.Proofs.Ythlappdngpjdeaa
open Go.RowKit L01 L02 L05 L07 L13 L14 L15 L18 L19
end Go.Proofs.Ythlappdngpjdeaa
namespace Go.Proofs.Ythlappdngpjdeaa
open Go.RowKit L02 L05 L06 L07
end Go.Proofs.Ythlappdngpjdeaa
namespace Go.Proofs.Ythlappdngpjdeaa
open Go.RowKit L01 L02 L05 L06 L07 L13 L14 L15 L18 L19
end Go.Proofs.Ythlappdngpjdeaa
namespace Go.Proofs.Ythlappdngpjdeaa
open Go.RowKit L01 L02 L05 L06 L07 L13 L14 L15 L18 L19
end Go.Proofs.Ythlappdngpjdeaa
namespace Go.Proofs.Ythlappdngpjdeaa
open Go.RowKit L01 L02 L05 L06 L07 L13 L14 L15 L18 L19
end Go.Proofs.Ythlappdngpjdeaa
namespace Go.Proofs.Ythlappdngpjdeaa
open Go.RowKit L01 L02 L05 L06 L07 L13 L14 L15 L18 L19
/-- what the reference knows of an image -/
structure Rs19 (W : World) (v tv sv bv : Value) (l : List UInt64) (T : List (List UInt8)) (S : List Sl) (O : List Hb) : Prop where
  w : Words W v l
  t : Typs W tv T
  s : Slots W sv S
  b : Blks W bv O
theorem Rs19.below {W W' : World} {v tv sv bv : Value} {l : List UInt64} {T : List (List UInt8)} {S : List Sl} {O : List Hb} (h : Rs19 W v tv sv bv l T S O) (hb : Below W.heap.size W W') : Rs19 W' v tv sv bv l T S O :=
  ⟨h.w.below hb, h.t.below hb, Slots.below h.s hb, h.b.below hb⟩
end Go.Proofs.Ythlappdngpjdeaa
namespace Go.Proofs.Ythlappdngpjdeaa
open Go.RowKit L01 L02 L05 L06 L07 L13 L14 L15 L18 L19
end Go.Proofs.Ythlappdngpjdeaa
namespace Go.Proofs.Ythlappdngpjdeaa.L20
open L02 L13 L18
def dropM (m : Mo) (sl g : Int) : Mo := if asked m sl g = 0 then ⟨m.types, m.objs, m.slots.set sl.toNat ⟨g, false, 0⟩⟩ else .nil
def allE (m : Mo) (t : Int) : Int := if chk m = 0 then (if 0 ≤ t ∧ t < m.types.length then (if next m.slots = none then 23 else if m.objs.length = 960 then 4 else 0) else 2) else chk m
def newO (m : Mo) (t : Int) : Ob := ⟨t, List.replicate (m.types.getD t.toNat []).length 0⟩
def allM (m : Mo) (t : Int) : Mo := if allE m t = 0 then ⟨m.types, m.objs ++ [newO m t], givS m m.objs.length ((next m.slots).getD 0)⟩ else .nil
def allS (m : Mo) (t : Int) : Int := if allE m t = 0 then ((next m.slots).getD 0 : Nat) else 0
def allG (m : Mo) (t : Int) : Int := if allE m t = 0 then (m.slots.getD ((next m.slots).getD 0) .none).gen + 1 else 0
/-- a reference to object n -/
def isRef (m : Mo) (o : Ob) (k : Nat) (n : Nat) : Prop := ((ty m.types o).getD k 0).toNat = 3 ∧ (o.fs.getD k 0).toNat = n + 1
instance (m : Mo) (o : Ob) (k n : Nat) : Decidable (isRef m o k n) := inferInstanceAs (Decidable (_ ∧ _))
/-- another slot, or a field of another object, refers to object n -/
def Busy (m : Mo) (sl : Int) (n : Nat) : Prop := (∃ i, i < m.slots.length ∧ (i : Int) ≠ sl ∧ (m.slots.getD i .none).used = true ∧ (m.slots.getD i .none).at_ = n) ∨ ∃ i, i < m.objs.length ∧ i ≠ n ∧ ∃ k, k < (ob m i).fs.length ∧ isRef m (ob m i) k n
instance (m : Mo) (sl : Int) (n : Nat) : Decidable (Busy m sl n) := inferInstanceAs (Decidable ((∃ i, i < m.slots.length ∧ (i : Int) ≠ sl ∧ (m.slots.getD i .none).used = true ∧ (m.slots.getD i .none).at_ = n) ∨ ∃ i, i < m.objs.length ∧ i ≠ n ∧ ∃ k, k < (ob m i).fs.length ∧ isRef m (ob m i) k n))
def freeE (m : Mo) (sl g : Int) : Int := if asked m sl g = 0 then (if Busy m sl (own m sl) then 45 else 0) else asked m sl g
/-- a number behind object n, one lower -/
def lowA (n : Nat) (a : Int) : Int := if (n : Int) < a then a - 1 else a
def lowV (n : Nat) (k : UInt8) (v : UInt64) : UInt64 := if k.toNat = 3 ∧ n + 1 < v.toNat then v - 1 else v
def lowO (m : Mo) (n : Nat) (o : Ob) : Ob := ⟨o.ty, (List.range o.fs.length).map fun i => lowV n ((ty m.types o).getD i 0) (o.fs.getD i 0)⟩
def lowS (n : Nat) (s : Sl) : Sl := if s.used = true then ⟨s.gen, true, lowA n s.at_⟩ else s
def freeM (m : Mo) (sl g : Int) : Mo := if freeE m sl g = 0 then ⟨m.types, (m.objs.map (lowO m (own m sl))).eraseIdx (own m sl), ((m.slots.set sl.toNat ⟨g, false, 0⟩).map (lowS (own m sl)))⟩ else .nil
end Go.Proofs.Ythlappdngpjdeaa.L20
namespace Go.Proofs.Ythlappdngpjdeaa.L20
open L02 L13 L18
def numV (ns : List Int) (k : UInt8) (v : UInt64) : UInt64 := if k.toNat = 3 ∧ 0 < v.toNat then UInt64.ofNat (ns.getD (v.toNat - 1) 0 + 1).toNat else v
def numO (m : Mo) (ns : List Int) (o : Ob) : Ob := ⟨o.ty, (List.range o.fs.length).map fun i => numV ns ((ty m.types o).getD i 0) (o.fs.getD i 0)⟩
def numN (m : Mo) (ns : List Int) (want k : Nat) : List Ob := ((List.range k).filter fun n => decide (ns.getD n (-2) = (want : Int))).map fun n => numO m ns (ob m n)
def numJ (m : Mo) (ns : List Int) (j : Nat) : List Ob := (List.range j).flatMap fun want => numN m ns want ns.length
def numS (ns : List Int) (s : Sl) : Sl := if s.used = true then ⟨s.gen, true, ns.getD s.at_.toNat 0⟩ else s
def numM (m : Mo) (ns : List Int) : Mo := ⟨m.types, numJ m ns ns.length, m.slots.map (numS ns)⟩
theorem numJ_succ (m : Mo) (ns : List Int) (j : Nat) : numJ m ns (j + 1) = numJ m ns j ++ numN m ns j ns.length := by
  simp [numJ, List.range_succ, List.flatMap_append]
theorem numV_other {ns : List Int} {k : UInt8} {v : UInt64} (h : ¬ (k.toNat = 3 ∧ 0 < v.toNat)) : numV ns k v = v := if_neg h
end Go.Proofs.Ythlappdngpjdeaa.L20
namespace Go.Proofs.Ythlappdngpjdeaa.L20
open L02 L13 L18
def kidAt (m : Mo) (o : Ob) (i : Nat) : Option Nat := if ((ty m.types o).getD i 0).toNat = 3 ∧ 0 < (o.fs.getD i 0).toNat then some ((o.fs.getD i 0).toNat - 1) else none
def kidsTo (m : Mo) (o : Ob) (p : Nat) : List Nat := (List.range p).filterMap (kidAt m o)
def kids (m : Mo) (n : Nat) : List Nat := kidsTo m (ob m n) (ob m n).fs.length
/-- out is what is found, ord has been found, l is to be looked at -/
inductive Rs (m : Mo) : List Nat → List Nat → List Nat → Prop
  | nil (ord : List Nat) : Rs m ord [] ord
  | seen {ord l out : List Nat} {n : Nat} : n ∈ ord → Rs m ord l out → Rs m ord (n :: l) out
  | new {ord l out : List Nat} {n : Nat} : n ∉ ord → Rs m (ord ++ [n]) (kids m n ++ l) out → Rs m ord (n :: l) out
section
variable {m : Mo} {ord l out : List Nat}
theorem Rs.join {mid : List Nat} {a : List Nat} (h : Rs m ord a mid) : ∀ {b out}, Rs m mid b out → Rs m ord (a ++ b) out := by
  induction h with
  | nil ord => intro b out h; exact h
  | seen h1 _ ih => intro b out h; exact .seen h1 (ih h)
  | new h1 _ ih =>
    intro b out h
    have h2 := ih h
    rw [List.append_assoc] at h2
    exact .new h1 h2
theorem Rs.pre (h : Rs m ord l out) : ord <+: out := by
  induction h with
  | nil ord => exact List.prefix_refl _
  | seen _ _ ih => exact ih
  | new _ _ ih => exact (List.prefix_append _ _).trans ih
theorem Rs.all {p : Nat → Prop} (hk : ∀ n, p n → ∀ k ∈ kids m n, p k) (h : Rs m ord l out) : (∀ n ∈ ord, p n) → (∀ n ∈ l, p n) → ∀ n ∈ out, p n := by
  induction h with
  | nil ord => intro h _; exact h
  | seen _ _ ih => intro h1 h2; exact ih h1 fun n hn => h2 n (List.mem_cons_of_mem _ hn)
  | @new ord l out n _ _ ih =>
    intro h1 h2
    have hpn := h2 n List.mem_cons_self
    refine ih (fun x hx => ?_) fun x hx => ?_
    · rcases List.mem_append.1 hx with h | h
      · exact h1 x h
      · rw [List.mem_singleton.1 h]; exact hpn
    · rcases List.mem_append.1 hx with h | h
      · exact hk n hpn x h
      · exact h2 x (List.mem_cons_of_mem _ h)
theorem Rs.mem (h : Rs m ord l out) : ∀ n ∈ l, n ∈ out := by
  induction h with
  | nil ord => intro n h; cases h
  | seen h1 h2 ih =>
    intro x hx
    rcases List.mem_cons.1 hx with h | h
    · rw [h]; exact h2.pre.subset h1
    · exact ih x h
  | new h1 h2 ih =>
    intro x hx
    rcases List.mem_cons.1 hx with h | h
    · rw [h]; exact h2.pre.subset (List.mem_append_right _ (by simp))
    · exact ih x (List.mem_append_right _ h)
end
/-- .. in so many steps -/
inductive Rn (m : Mo) : Nat → List Nat → List Nat → List Nat → Prop
  | nil (ord : List Nat) : Rn m 0 ord [] ord
  | seen {ord l out : List Nat} {n d : Nat} : n ∈ ord → Rn m d ord l out → Rn m (d + 1) ord (n :: l) out
  | new {ord l out : List Nat} {n d : Nat} : n ∉ ord → Rn m d (ord ++ [n]) (kids m n ++ l) out → Rn m (d + 1) ord (n :: l) out
theorem Rs.steps {m : Mo} {ord l out : List Nat} (h : Rs m ord l out) : ∃ d, Rn m d ord l out := by
  induction h with
  | nil ord => exact ⟨0, .nil _⟩
  | seen h1 _ ih => obtain ⟨d, h⟩ := ih; exact ⟨d + 1, .seen h1 h⟩
  | new h1 _ ih => obtain ⟨d, h⟩ := ih; exact ⟨d + 1, .new h1 h⟩
theorem Rn.rs {m : Mo} {ord l out : List Nat} {d : Nat} (h : Rn m d ord l out) : Rs m ord l out := by
  induction h with
  | nil ord => exact .nil _
  | seen h1 _ ih => exact .seen h1 ih
  | new h1 _ ih => exact .new h1 ih
theorem Rn.len {m : Mo} {ord l out : List Nat} {d : Nat} (h : Rn m d ord l out) : l.length ≤ d := by
  induction h with
  | nil ord => simp
  | seen h1 _ ih => simp; exact ih
  | new h1 _ ih => simp at ih ⊢; omega
theorem Rn.all {m : Mo} {p : Nat → Prop} (hk : ∀ n, p n → ∀ k ∈ kids m n, p k) {ord l out : List Nat} {d : Nat} (h : Rn m d ord l out) (h1 : ∀ n ∈ ord, p n) (h2 : ∀ n ∈ l, p n) : ∀ n ∈ out, p n := h.rs.all hk h1 h2
theorem Rn.end {m : Mo} {ord out : List Nat} {d : Nat} (h : Rn m d ord [] out) : out = ord := by cases h; rfl
end Go.Proofs.Ythlappdngpjdeaa.L20
namespace Go.Proofs.Ythlappdngpjdeaa.L20
open L02 L13 L18
/-- of the same types -/
def Like (m m' : Mo) : Prop := m'.types = m.types ∧ m'.objs.length = m.objs.length ∧ ∀ k, (ob m' k).ty = (ob m k).ty ∧ (ob m' k).fs.length = (ob m k).fs.length
theorem Like.refl (m : Mo) : Like m m := ⟨rfl, rfl, fun _ => ⟨rfl, rfl⟩⟩
section
variable {φ : UInt8 → UInt64 → UInt64} {m : Mo} {n i : Nat}
end
end Go.Proofs.Ythlappdngpjdeaa.L20
namespace Go.Proofs.Ythlappdngpjdeaa.L20
open L02 L13 L18
section
variable {α : Type} {f : α → α} {L : List α} {k : Nat} {s : α}
end
section
variable {m : Mo} {q n i : Nat}
end
theorem range_filter (a : Nat) : ∀ N, (List.range N).filter (fun n => decide (n = a)) = if a < N then [a] else []
  | 0 => by simp
  | N + 1 => by
    rw [List.range_succ, List.filter_append, range_filter a N]
    by_cases h : a < N
    · rw [if_pos h, if_pos (by omega)]
      have : ¬ N = a := by omega
      simp [this]
    · rw [if_neg h]
      by_cases h2 : a = N
      · subst h2; simp
      · rw [if_neg (by omega)]
        have : ¬ N = a := fun e => h2 e.symm
        simp [this]
def sk (q w : Nat) : Nat := if w < q then w else w + 1
end Go.Proofs.Ythlappdngpjdeaa.L20
namespace Go.Proofs.Ythlappdngpjdeaa.L19
open L02 L07 L13 L14 L15 L16 L18 L20
theorem objs_pair {l : List UInt64} (h : allErr l = 0) : (O19 l).Pairwise fun a b => a.at_ + a.size ≤ b.at_ := by
  unfold O19 objs
  exact List.Pairwise.filter _ (chain_apart (chain_iff.1 (parsed_ok.1 (allErr_ok h).2).1)).2
theorem objs_idx {l : List UInt64} (h : allErr l = 0) {i j : Nat} {b : Hb} (hi : (O19 l)[i]? = some b) (hj : (O19 l)[j]? = some b) : i = j := by
  have hp := List.pairwise_iff_getElem.1 (objs_pair h)
  obtain ⟨a, _, _, h3, _, _, _, _, h8, _⟩ := objs_at h (List.mem_of_getElem? hi)
  obtain ⟨i1, i2⟩ := List.getElem?_eq_some_iff.1 hi
  obtain ⟨j1, j2⟩ := List.getElem?_eq_some_iff.1 hj
  rcases Nat.lt_trichotomy i j with hlt | e | hlt
  · have := hp i j i1 j1 hlt
    rw [i2, j2] at this; omega
  · exact e
  · have := hp j i j1 i1 hlt
    rw [i2, j2] at this; omega
theorem idx_app : ∀ {A B : List Hb} {a : Int}, idx (A ++ B) a = match idx A a with | some i => some i | none => (idx B a).map (· + A.length)
  | [], B, a => by
    show idx B a = (idx B a).map (· + 0)
    cases idx B a <;> rfl
  | b :: A, B, a => by
    rw [List.cons_append, idx, idx]
    by_cases h : b.at_ = a
    · rw [if_pos h, if_pos h]
    · rw [if_neg h, if_neg h, idx_app]
      cases idx A a with
      | some i => rfl
      | none =>
        cases idx B a with
        | none => rfl
        | some i => show some (i + A.length + 1) = some (i + (A.length + 1)); rfl
theorem idx_at {l : List UInt64} (h : allErr l = 0) {i : Nat} {b : Hb} (hi : (O19 l)[i]? = some b) : idx (O19 l) b.at_ = some i := by
  obtain ⟨j, c, h1, h2, h3, _⟩ := idx_of ⟨b, List.mem_of_getElem? hi, rfl⟩
  have hc := objs_inj h (List.mem_of_getElem? h2) (List.mem_of_getElem? hi) h3
  subst hc
  rw [h1, objs_idx h h2 hi]
theorem idx_drop {A C : List Hb} {b : Hb} {a : Int} {i : Nat} (h : idx (A ++ b :: C) a = some i) (ha : b.at_ ≠ a) : idx (A ++ C) a = some (if i < A.length then i else i - 1) ∧ i ≠ A.length := by
  rw [idx_app] at h ⊢
  cases hA : idx A a with
  | some j =>
    rw [hA] at h
    injection h with h
    obtain ⟨c, hc, _⟩ := idx_some hA
    have := (List.getElem?_eq_some_iff.1 hc).1
    subst h
    rw [if_pos this]
    exact ⟨rfl, by omega⟩
  | none =>
    rw [hA, idx, if_neg ha] at h
    cases hC : idx C a with
    | none => rw [hC] at h; cases h
    | some j =>
      rw [hC] at h
      injection h with h
      dsimp only at h
      subst h
      refine ⟨?_, by omega⟩
      rw [if_neg (by omega)]
      show some (j + A.length) = _
      congr 1; omega
theorem idx_ins {A C : List Hb} {o : Hb} {a : Int} {i : Nat} (h : idx (A ++ C) a = some i) (ha : o.at_ ≠ a) : idx (A ++ o :: C) a = some (if i < A.length then i else i + 1) := by
  rw [idx_app] at h ⊢
  cases hA : idx A a with
  | some j =>
    rw [hA] at h
    injection h with h
    obtain ⟨c, hc, _⟩ := idx_some hA
    have := (List.getElem?_eq_some_iff.1 hc).1
    subst h
    rw [if_pos this]
  | none =>
    rw [hA] at h
    cases hC : idx C a with
    | none => rw [hC] at h; cases h
    | some j =>
      rw [hC] at h
      injection h with h
      dsimp only at h
      subst h
      rw [if_neg (by omega), idx, if_neg ha, hC]
      show some (j + 1 + A.length) = _
      congr 1; omega
theorem refV_some {O : List Hb} {v : UInt64} {i : Nat} (h : idx O v.toNat = some i) : refV O v = UInt64.ofNat (i + 1) := by unfold refV; rw [h]
theorem refV_none {O : List Hb} {v : UInt64} (h : ¬ IsObj O v.toNat) : refV O v = 0 := by unfold refV; rw [idx_none.2 h]
theorem no_zero {l : List UInt64} (h : allErr l = 0) {O : List Hb} (hO : ∀ b ∈ O, 128 ≤ b.at_) : ¬ IsObj O (0 : UInt64).toNat := by
  rintro ⟨b, hb, e⟩
  have := hO b hb
  rw [e] at this
  simp at this
theorem objs_low {l : List UInt64} (h : allErr l = 0) : ∀ b ∈ O19 l, 128 ≤ b.at_ := fun b hb => by
  obtain ⟨a, h1, h2, _⟩ := objs_at h hb
  omega
theorem fldV_not {O : List Hb} {k : UInt8} {v : UInt64} (h : k.toNat ≠ 3) : fldV O k v = v := if_neg h
theorem fldV_ref {O : List Hb} {k : UInt8} {v : UInt64} (h : k.toNat = 3) : fldV O k v = refV O v := if_pos h
/-- the model with another field -/
theorem seen_put {l : List UInt64} (h : Rt l) {n i p : Nat} {b : Hb} {k : UInt8} {v : UInt64} (hb : (O19 l)[n]? = some b) (hi : i < (kindsB (T19 l) b).length) (hk : (kindsB (T19 l) b).getD i 0 = k) (hp : p = b.at_.toNat + 2 + i) (hv : FdR (O19 l) k v) :
    Rt (l.set p v) ∧ seen (l.set p v) = putF (seen l) n i (fldV (O19 l) k v) := by
  have hbm := List.mem_of_getElem? hb
  have f := h.fs hbm v hi hp
  refine ⟨f.rt h hbm hi hk hv, ?_⟩
  have eO : O19 (l.set p v) = O19 l := by unfold O19; rw [f.alL]
  have hn : n < (O19 l).length := (List.getElem?_eq_some_iff.1 hb).1
  unfold seen putF
  rw [f.tyT, f.slL, eO]
  congr 1
  refine List.ext_getElem? fun j => ?_
  rw [List.getElem?_map]
  by_cases hj : j = n
  · subst hj
    rw [List.getElem?_set_self (by rw [List.length_map]; exact hn), hb, Option.map_some]
    have hob : ob ⟨T19 l, (O19 l).map (obOf l (T19 l) (O19 l)), (slots l).map (slOf (O19 l))⟩ j = obOf l (T19 l) (O19 l) b := by
      unfold ob; rw [List.getD_eq_getElem?_getD, List.getElem?_map, hb]; rfl
    rw [hob]
    unfold obOf
    congr 2
    refine List.ext_getElem? fun q => ?_
    by_cases hq : q < (kindsB (T19 l) b).length
    · rw [obFs_get hq]
      by_cases e : q = i
      · subst e
        rw [List.getElem?_set_self (by rw [obFs_len]; exact hq), f.fwb, hk]
      · rw [List.getElem?_set_ne (fun e' => e e'.symm), obFs_get hq, f.fwo b hbm q (by omega) (fun _ => hq) (.inr e)]
    · rw [List.getElem?_eq_none (by rw [obFs_len]; omega), List.getElem?_eq_none (by rw [List.length_set, obFs_len]; omega)]
  · rw [List.getElem?_set_ne (fun e => hj e.symm), List.getElem?_map]
    cases hc : (O19 l)[j]? with
    | none => rfl
    | some c =>
      have hcm := List.mem_of_getElem? hc
      have hne : c ≠ b := fun e => hj (objs_idx h.al hc (e ▸ hb))
      rw [Option.map_some, Option.map_some]
      unfold obOf obFs
      congr 2
      refine List.map_congr_left fun q hq => ?_
      have hq := List.mem_range.1 hq
      rw [f.fwo c hcm q (by omega) (fun _ => hq) (.inl hne)]
/-- images that are the same in front of the heap -/
structure Front (l l' : List UInt64) : Prop where
  len : l'.length = l.length
  take : l'.take 128 = l.take 128
section
variable {l l' : List UInt64}
theorem Front.get (h : Front l l') {i : Nat} (hi : i < 128) : l'.getD i 0 = l.getD i 0 := by
  rw [List.getD_eq_getElem?_getD, List.getD_eq_getElem?_getD, ← List.getElem?_take_of_lt hi, h.take, List.getElem?_take_of_lt hi]
theorem Front.part (h : Front l l') {a n : Nat} (ha : a + n ≤ 128) : (l'.drop a).take n = (l.drop a).take n := by
  have e : ∀ m : List UInt64, (m.drop a).take n = ((m.take 128).drop a).take n := fun m => by
    rw [List.drop_take, List.take_take, Nat.min_eq_left (by omega)]
  rw [e l', e l, h.take]
theorem Front.super (h : Front l l') : rErr l' = rErr l ∧ sT l' = sT l := by
  have h0 : c0 l' = c0 l := by have := h.part (a := 0) (n := 8) (by omega); rwa [List.drop_zero, List.drop_zero] at this
  have h1 : c1 l' = c1 l := h.part (a := 8) (n := 8) (by omega)
  have e0 : is0 l' = is0 l := by unfold is0; rw [h0, h.len]
  have e1 : is1 l' = is1 l := by unfold is1; rw [h1, h.len]
  have e2 : rErr l' = rErr l := by unfold rErr; rw [e0, e1, h.len]
  exact ⟨e2, by unfold sT one; rw [e2, e0, h0, h1]⟩
theorem Front.zr (h : Front l l') {a : Nat} (ha : a + 8 ≤ 128) : Zr l' a ↔ Zr l a := by
  unfold Zr
  constructor <;> intro hh i hi <;> have := hh i hi <;> rw [h.get (by omega)] at * <;> exact this
theorem Front.tab (h : Front l l') (n : Int) : tabErr l' n = tabErr l n ∧ tabT l' n = tabT l n := by
  have e0 : ∀ i, i < 8 → ta l' i = ta l i ∧ tb l' i = tb l i := fun i hi => by unfold ta tb; exact ⟨h.get (by omega), h.get (by omega)⟩
  have e : ∀ k, TysOk l' k ↔ TysOk l k := fun k => by
    unfold TysOk
    constructor <;> intro hh i hi <;> have := hh i hi <;> unfold TyOk at * <;> rw [(e0 i hi).1, (e0 i hi).2] at * <;> exact this
  have e2 : tabErr l' n = tabErr l n := by unfold tabErr; rw [h.len]; simp only [e]
  refine ⟨e2, ?_⟩
  unfold tabT
  rw [e2]
  by_cases h0 : tabErr l n = 0
  · rw [if_pos h0, if_pos h0]
    have hn : n.toNat ≤ 8 := by
      unfold tabErr at h0
      split at h0
      · split at h0
        · omega
        · omega
      · omega
    unfold tysTo
    refine List.map_congr_left fun i hi => ?_
    have := List.mem_range.1 hi
    rw [(e0 i (by omega)).1, (e0 i (by omega)).2]
  · rw [if_neg h0, if_neg h0]
theorem Front.open_ (h : Front l l') : openErr l' = openErr l ∧ slots l' = slots l := by
  have e : ws l' = ws l := h.part (a := 112) (n := 16) (by omega)
  refine ⟨?_, by unfold slots; rw [e]⟩
  have e2 : AllR l' ↔ AllR l := by unfold AllR; rw [e]
  unfold openErr; rw [h.len]; simp only [e2]
theorem Front.types (h : Front l l') : T19 l' = T19 l := by unfold T19; rw [h.super.2, (h.tab _).2]
/-- a right image whose heap is written anew -/
theorem Front.rt (f : Front l l') (h : Rt l) (ha : allErr l' = 0) (hg : ∀ b ∈ O19 l', Idle b ∧ Typed (T19 l) b ∧ Padded l' (T19 l) b ∧ FloatsB l' (T19 l) b ∧ RefsB l' (T19 l) (O19 l') b) (hs : SlotsGood (slots l) (O19 l')) : Rt l' := by
  refine ⟨by rw [f.len]; exact h.sz, f.super.1.trans h.tw, (f.zr (by omega)).2 h.z16, (f.zr (by omega)).2 h.z24, by rw [f.super.2, (f.tab _).1]; exact h.ty, f.open_.1.trans h.sl, ha, ?_, by rw [f.open_.2]; exact hs⟩
  intro i h1 h2 b hb
  rw [f.types]
  obtain ⟨g1, g2, g3, g4, g5⟩ := hg b hb
  rcases (show i = 7 ∨ i = 8 ∨ i = 9 ∨ i = 10 ∨ i = 11 by omega) with rfl | rfl | rfl | rfl | rfl
  · exact g1
  · exact g2
  · exact g3
  · exact g4
  · exact g5
theorem front_set {p : Nat} {v : UInt64} (hp : 128 ≤ p) : Front l (l.set p v) := ⟨List.length_set, List.take_set_of_le hp⟩
theorem Front.refl (l : List UInt64) : Front l l := ⟨rfl, rfl⟩
theorem Front.trans {m : List UInt64} (h : Front l l') (h2 : Front l' m) : Front l m := ⟨h2.len.trans h.len, h2.take.trans h.take⟩
end
/-- the model with another slot -/
theorem seen_slot_set {l : List UInt64} (h : Rt l) {k : Nat} {s : Sl} (hk : k < 16) (hr : Right s) (hs : s.used = true → IsObj (O19 l) s.at_) :
    Rt (l.set (112 + k) (pk s)) ∧ seen (l.set (112 + k) (pk s)) = ⟨(seen l).types, (seen l).objs, (seen l).slots.set k (slOf (O19 l) s)⟩ ∧ O19 (l.set (112 + k) (pk s)) = O19 l ∧ T19 (l.set (112 + k) (pk s)) = T19 l ∧ allL (l.set (112 + k) (pk s)) = allL l := by
  obtain ⟨l', hl'⟩ : ∃ l', l' = l.set (112 + k) (pk s) := ⟨_, rfl⟩
  have a1 := rErr_set (l := l) (v := pk s) (p := 112 + k) (by omega)
  have a4 := tabErr_set (l := l) (v := pk s) (p := 112 + k) (by omega)
  have a6 := allL_set (l := l) (v := pk s) (p := 112 + k) (by omega)
  have a7 := allErr_set (l := l) (v := pk s) (p := 112 + k) (by omega)
  have a8 := openErr_set (x := pk s) h.sl hk (by rw [spl_pk hr]; exact hr)
  have a9 := slots_set (l := l) (pk s) hk
  rw [spl_pk hr] at a9
  have z1 := zr_set (l := l) (v := pk s) (p := 112 + k) (a := 16) (by omega)
  have z2 := zr_set (l := l) (v := pk s) (p := 112 + k) (a := 24) (by omega)
  have eT : T19 (l.set (112 + k) (pk s)) = T19 l := by unfold T19; rw [a1.2.1, (a4 _).2]
  have eO : O19 (l.set (112 + k) (pk s)) = O19 l := by unfold O19; rw [a6]
  have efw : ∀ b ∈ O19 l, ∀ i, fw (l.set (112 + k) (pk s)) b i = fw l b i := fun b hb i => by
    have := objs_low h.al b hb
    exact fw_set (by omega)
  have hT : tabErr (l.set (112 + k) (pk s)) (sT (l.set (112 + k) (pk s))) = 0 := by rw [a1.2.1, (a4 _).1]; exact h.ty
  have hlen : (l.set (112 + k) (pk s)).length = l.length := List.length_set
  rw [← hl'] at a1 a4 a6 a7 a8 a9 z1 z2 eT eO efw hT hlen
  rw [← hl']
  refine ⟨⟨by rw [hlen]; exact h.sz, a1.1.trans h.tw, z1.2 h.z16, z2.2 h.z24, hT, a8, a7.trans h.al, ?_, ?_⟩, ?_, eO, eT, a6⟩
  · intro i h1 h2 b hb
    rw [eT, eO]
    rw [eO] at hb
    exact (good_congr fun j _ _ => efw b hb j).2 (h.good i h1 h2 b hb)
  · rw [a9, eO]
    intro t ht hu
    rcases List.mem_or_eq_of_mem_set ht with ht | rfl
    · exact h.slots t ht hu
    · exact hs hu
  · unfold seen
    rw [eT, eO, a9, List.map_set]
    congr 1
    refine List.map_congr_left fun b hb => ?_
    unfold obOf obFs
    congr 1
    exact List.map_congr_left fun i _ => by rw [efw b hb i]
/-- an object is taken away: its neighbours merge with it -/
theorem seen_free {l : List UInt64} (h : Rt l) {n i : Nat} {b : Hb} (hb : (O19 l)[n]? = some b) (hi : (allL l)[i]? = some b) (hns : ∀ s ∈ slots l, s.used = true → s.at_ ≠ b.at_)
    (hnr : ∀ c ∈ O19 l, c ≠ b → ∀ j, j < (kindsB (T19 l) c).length → ((kindsB (T19 l) c).getD j 0).toNat = 3 → (fw l c j).toNat ≠ b.at_) {m : Hb} (hm : m = becomes (allL l) i) :
    Rt (l.set m.at_.toNat (L14.word m)) ∧ seen (l.set m.at_.toNat (L14.word m)) = ⟨(seen l).types, ((seen l).objs.map (lowO (seen l) n)).eraseIdx n, (seen l).slots.map (lowS n)⟩ ∧
      (∃ P M S, allL l = P ++ (M ++ S) ∧ b ∈ M ∧ (∀ c ∈ M, c ≠ b → c.kind = 2) ∧ allL (l.set m.at_.toNat (L14.word m)) = P ++ ([{ m with next := (l.set m.at_.toNat (L14.word m)).getD (m.at_.toNat + 1) 0 }] ++ S)) ∧ 128 ≤ m.at_ ∧ m.at_ + m.size ≤ l.length := by
  have hbm := List.mem_of_getElem? hb
  have hbk : b.kind = 1 := (objs_mem.1 hbm).2
  obtain ⟨P, lo, hi', S, p, q, hc, e1, e2, hok, k1, k2, l1, l2, hna, hil, hp128, hpb, hbq, hq⟩ := merge_part h.al hi hbk
  rw [← hm] at e1 e2 hok
  have hpn : m.at_.toNat = p := by omega
  rw [hpn]
  have hbd := hok.bounds
  obtain ⟨l', hl'⟩ : ∃ l', l' = l.set p (L14.word m) := ⟨_, rfl⟩
  rw [← hl']
  have f : Front l l' := by rw [hl']; exact front_set hp128
  have hgp : l'.getD p 0 = L14.word m := by rw [hl']; exact getD_set_self (by omega)
  have hge : ∀ j, j ≠ p → l'.getD j 0 = l.getD j 0 := fun j hj => by rw [hl']; exact getD_set_ne (fun e => hj e.symm)
  obtain ⟨a1, a2, a3⟩ := hc.new (N := [{ m with next := l'.getD (p + 1) 0 }]) h.sz f.len (fun j h1 h2 => hge j (by omega))
    (Seg.put (b := { m with next := l'.getD (p + 1) 0 }) (k := p) hok (by rw [hgp]; rfl) e1 rfl (by show (q : Int) = p + m.size; omega) (by rw [f.len]; exact hq)) (hna _)
  -- the objects
  have eO : O19 l = objs P ++ b :: objs S := by
    unfold O19
    rw [hc.eq, objs_app, objs_app, objs_app]
    have z1 : objs lo = [] := List.filter_eq_nil_iff.2 fun x hx => by have := k1 x hx; simp; omega
    have z2 : objs (b :: hi') = [b] := by
      show List.filter _ _ = _
      rw [List.filter_cons_of_pos (by simpa using hbk)]
      congr 1
      exact List.filter_eq_nil_iff.2 fun x hx => by have := k2 x hx; simp; omega
    rw [z1, z2]; simp
  have hm2 : m.kind = 2 := by rw [hm]; rfl
  have eO' : O19 l' = objs P ++ objs S := by
    unfold O19
    rw [a2, objs_app, objs_app]
    have : objs [({ m with next := l'.getD (p + 1) 0 } : Hb)] = [] := List.filter_eq_nil_iff.2 fun x hx => by
      rw [List.mem_singleton] at hx; subst hx; simp; omega
    rw [this]; simp
  have hn : n = (objs P).length := objs_idx h.al hb (by rw [eO, List.getElem?_append_right (Nat.le_refl _), Nat.sub_self]; rfl)
  have hsub : ∀ c ∈ O19 l', c ∈ O19 l ∧ c ≠ b := fun c hcm => by
    rw [eO'] at hcm
    refine ⟨by rw [eO]; rcases List.mem_append.1 hcm with h1 | h1 <;> simp [h1], fun e => ?_⟩
    subst e
    rcases List.mem_append.1 hcm with h1 | h1
    · obtain ⟨j, hj⟩ := List.getElem?_of_mem h1
      have hjl := (List.getElem?_eq_some_iff.1 hj).1
      have := objs_idx h.al hb (j := j) (by rw [eO, List.getElem?_append_left hjl]; exact hj)
      omega
    · obtain ⟨j, hj⟩ := List.getElem?_of_mem h1
      have := objs_idx h.al hb (j := (objs P).length + (j + 1)) (by rw [eO, List.getElem?_append_right (by omega), show (objs P).length + (j + 1) - (objs P).length = j + 1 by omega]; exact hj)
      omega
  have hfw : ∀ c ∈ O19 l', ∀ j, j ≤ (kindsB (T19 l) c).length → ((kindsB (T19 l) c).length % 2 = 0 → j < (kindsB (T19 l) c).length) → fw l' c j = fw l c j := fun c hcm j h1 h2 => by
    refine hge _ ?_
    have hcl := hsub c hcm
    obtain ⟨a, g1, g2, g3, g4, g5, g6, _⟩ := objs_at h.al hcl.1
    have hsz := (h.good 8 (by omega) (by omega) c hcl.1).2
    have : (kindsB (T19 l) c).length % 2 = 0 ∨ (kindsB (T19 l) c).length % 2 = 1 := by omega
    rw [eO'] at hcm
    rcases List.mem_append.1 hcm with h3 | h3
    · have := (hc.s1.bound (objs_mem.1 h3).1).2.1
      omega
    · have := (hc.s3.bound (objs_mem.1 h3).1).1
      omega
  have hob : ∀ a : Int, IsObj (O19 l) a → a ≠ b.at_ → IsObj (O19 l') a := fun a ⟨c, hcm, e⟩ hne => by
    rw [eO] at hcm
    refine ⟨c, ?_, e⟩
    rw [eO']
    rcases List.mem_append.1 hcm with h3 | h3
    · exact List.mem_append.2 (.inl h3)
    · rcases List.mem_cons.1 h3 with h4 | h4
      · exact absurd (by rw [← e, h4]) hne
      · exact List.mem_append.2 (.inr h4)
  have rt' : Rt l' := f.rt h a1 (fun c hcm => by
    have hcl := hsub c hcm
    refine ⟨h.good 7 (by omega) (by omega) c hcl.1, h.good 8 (by omega) (by omega) c hcl.1, ?_, ?_, ?_⟩
    · have h9 : Padded l (T19 l) c := h.good 9 (by omega) (by omega) c hcl.1
      by_cases h2 : (kindsB (T19 l) c).length % 2 = 0
      · exact .inl h2
      · refine .inr ?_
        rw [hfw c hcm _ (Nat.le_refl _) (fun e => absurd e h2)]
        exact h9.resolve_left h2
    · intro j hj hj2
      rw [hfw c hcm j (by omega) (fun _ => hj)]
      exact h.good 10 (by omega) (by omega) c hcl.1 j hj hj2
    · intro j hj hj2
      rw [hfw c hcm j (by omega) (fun _ => hj)]
      have : fw l c j = 0 ∨ IsObj (O19 l) (fw l c j).toNat := h.good 11 (by omega) (by omega) c hcl.1 j hj hj2
      exact this.imp id fun h3 => hob _ h3 (hnr c hcl.1 hcl.2 j hj hj2)) (fun s hs hu => hob _ (h.slots s hs hu) (hns s hs hu))
  have hidx : ∀ (a : Int) (j : Nat), idx (O19 l) a = some j → b.at_ ≠ a → idx (O19 l') a = some (if j < n then j else j - 1) ∧ j ≠ n := fun a j h1 h2 => by
    rw [eO] at h1
    rw [eO', hn]
    exact idx_drop h1 h2
  refine ⟨rt', ?_, ⟨P, lo ++ b :: hi', S, hc.eq, by simp, ?_, a2⟩, by omega, by omega⟩
  · have hOl := objs_len h.al
    rw [show seen l' = ⟨T19 l', (O19 l').map (obOf l' (T19 l') (O19 l')), (slots l').map (slOf (O19 l'))⟩ from rfl, f.types, f.open_.2]
    show Mo.mk _ _ _ = Mo.mk _ _ _
    congr 1
    · have hfs : ∀ c ∈ O19 l', obOf l' (T19 l) (O19 l') c = lowO (seen l) n (obOf l (T19 l) (O19 l) c) := fun c hcm => by
        have hcl := hsub c hcm
        unfold obOf lowO
        congr 1
        show obFs l' (T19 l) (O19 l') c = (List.range (obFs l (T19 l) (O19 l) c).length).map fun j => lowV n ((kindsB (T19 l) c).getD j 0) ((obFs l (T19 l) (O19 l) c).getD j 0)
        rw [obFs_len]
        unfold obFs
        refine List.map_congr_left fun j hj => ?_
        have hj := List.mem_range.1 hj
        have hg : ((List.range (kindsB (T19 l) c).length).map fun i => fldV (O19 l) ((kindsB (T19 l) c).getD i 0) (fw l c i)).getD j 0 = fldV (O19 l) ((kindsB (T19 l) c).getD j 0) (fw l c j) := by
          have := obFs_get (l := l) (T := T19 l) (O := O19 l) hj
          unfold obFs at this
          rw [List.getD_eq_getElem?_getD, this]; rfl
        rw [hg, hfw c hcm j (by omega) (fun _ => hj)]
        by_cases h3 : ((kindsB (T19 l) c).getD j 0).toNat = 3
        · rw [fldV_ref h3, fldV_ref h3]
          have h11 : fw l c j = 0 ∨ IsObj (O19 l) (fw l c j).toNat := h.good 11 (by omega) (by omega) c hcl.1 j hj h3
          have hne := hnr c hcl.1 hcl.2 j hj h3
          unfold lowV
          rcases h11 with h0 | h0
          · rw [h0, refV_none (no_zero h.al (objs_low h.al)), refV_none (no_zero h.al (fun x hx => objs_low h.al x (hsub x hx).1)), if_neg (by simp)]
          · obtain ⟨x, y, g1, g2, g3, g4⟩ := idx_of h0
            obtain ⟨g5, g6⟩ := hidx _ _ g1 (fun e => hne e.symm)
            rw [refV_some g1, refV_some g5]
            have hx : (UInt64.ofNat (x + 1)).toNat = x + 1 := by rw [UInt64.toNat_ofNat', Nat.mod_eq_of_lt (by omega)]
            rw [hx]
            by_cases hlt : x < n
            · rw [if_pos hlt, if_neg (by omega)]
            · rw [if_neg hlt, if_pos ⟨h3, by omega⟩]
              have hx1 : x ≠ 0 := by omega
              apply UInt64.toNat.inj
              rw [UInt64.toNat_sub_of_le _ _ (by rw [UInt64.le_iff_toNat_le, hx]; simp), hx, UInt64.toNat_ofNat', Nat.mod_eq_of_lt (by omega)]
              show x - 1 + 1 = x + 1 - 1
              omega
        · rw [fldV_not h3, fldV_not h3]
          unfold lowV
          rw [if_neg (fun e => h3 e.1)]
      show _ = (((O19 l).map (obOf l (T19 l) (O19 l))).map (lowO (seen l) n)).eraseIdx n
      rw [List.map_congr_left hfs, List.map_map, hn]
      have e3 : ∀ F : Hb → Ob, (O19 l').map F = ((O19 l).map F).eraseIdx (objs P).length := fun F => by
        rw [eO, eO', List.map_append, List.map_append, List.map_cons, List.eraseIdx_append_of_length_le (by simp)]
        simp
      exact e3 _
    · show _ = ((slots l).map (slOf (O19 l))).map (lowS n)
      rw [List.map_map]
      refine List.map_congr_left fun s hs => ?_
      show slOf (O19 l') s = lowS n (slOf (O19 l) s)
      unfold slOf
      by_cases hu : s.used = true
      · rw [if_pos hu, if_pos hu]
        obtain ⟨x, y, g1, g2, g3, g4⟩ := idx_of (h.slots s hs hu)
        obtain ⟨g5, g6⟩ := hidx _ _ g1 (fun e => hns s hs hu e.symm)
        rw [g1, g5]
        unfold lowS lowA
        rw [if_pos rfl]
        dsimp only
        congr 1
        by_cases hlt : x < n
        · rw [if_pos hlt, if_neg (by omega)]
        · rw [if_neg hlt, if_pos (by omega)]; omega
      · rw [if_neg hu, if_neg hu]
        unfold lowS
        rw [if_neg hu]
  · intro c hcm hne
    rcases List.mem_append.1 hcm with h3 | h3
    · exact k1 c h3
    · rcases List.mem_cons.1 h3 with h4 | h4
      · exact absurd h4 hne
      · exact k2 c h4
end Go.Proofs.Ythlappdngpjdeaa.L19
namespace Go.Proofs.Ythlappdngpjdeaa
open Go.RowKit L01 L02 L05 L06 L07 L13 L14 L15 L16 L18 L19
theorem free_snoc {L : List Hb} {b : Hb} : free (L ++ [b]) = free L ++ (if b.kind = 2 then [b] else []) := by
  rw [free_app]; congr 1
  unfold free
  by_cases h : b.kind = 2
  · rw [if_pos h, List.filter_cons_of_pos (by simpa using h)]; rfl
  · rw [if_neg h, List.filter_cons_of_neg (by simpa using h)]; rfl
set_option maxRecDepth 100000 in
set_option maxHeartbeats 1000000 in
theorem FreeW_any (v : Value) (l : List UInt64) (F : List Hb) (r : Int) (hF : F = freeL l) (hr : r = allErr l) (w : World) (h : Words w v l) :
    Calls Try.prog 8 #[v] w fun e w' => ∃ x, e = .returned (.tuple #[x, .int .i64 r]) ∧ OwnK w' w.heap.size x F ∧ Below w.heap.size w w' := by
  have B : Below w.heap.size w w := Below.refl _ _
  have H := Lib.hid h
  obtain ⟨L, hL⟩ : ∃ L, L = allL l := ⟨_, rfl⟩
  have WT := Lib.hid (fun w h => AllW_any v l L r hL hr w h)
  by_cases h0 : r = 0
  case neg =>
    have hF0 : F = [] := by rw [hF, freeL, allL, if_neg (by rw [← hr]; exact h0)]; rfl
    subst hF0
    have n1 : (r != 0) = true := by rw [bne_iff_ne]; exact h0
    clear hF hr h hL h0
    go_enter Try.func8, Try.ntmps8
    go_wp2_with fail
    refine (WT.out _ (H.out.below B)).mono ?_
    rintro e wa1 ⟨xl, rfl, ol, b⟩
    replace B := B.trans (b.mono B.size); clear b
    go_wp2
    go_ret2
    exact ⟨_, rfl, OwnK.nil _ _, B⟩
  case pos =>
    subst h0
    have hl9 : L.length ≤ 960 := by rw [hL]; exact all_len hr.symm
    have HF := Lib.hid (show F = free L by rw [hF, hL]; rfl)
    obtain ⟨N, hN⟩ : ∃ N, N = L.length := ⟨_, rfl⟩
    have HN := Lib.hid hN
    have hN9 : N ≤ 960 := by omega
    clear hF hr h hL hl9 hN
    go_enter Try.func8, Try.ntmps8
    go_wp2_with fail
    refine (WT.out _ (H.out.below B)).mono ?_
    rintro e wa1 ⟨xl, rfl, ol, b⟩
    replace B := B.trans (b.mono B.size); clear b
    have HO := Lib.hid ol.rd
    have lx := HO.out.len
    rw [← HN.out] at lx
    have hB1 := B.size
    have HB := Lib.hid (And.intro B hB1)
    have BB : Below wa1.heap.size wa1 wa1 := Below.refl _ _
    have HBB := Lib.hid BB
    clear ol B BB hB1
    go_wp2
    go_loopg [6, 19] N (fun g xv i wr => ∃ j : Nat, j ≤ N ∧ g = N - j ∧ i = .int .i64 j ∧ Hid (OwnK wr wa1.heap.size xv (free (L.take j)) ∧ Below wa1.heap.size wa1 wr))
    case atStart => exact ⟨0, by omega, by omega, rfl, Lib.hid ⟨by rw [List.take_zero]; exact OwnK.nil _ _, HBB.out⟩⟩
    case round =>
      obtain ⟨j, hj, rfl, rfl, hh⟩ := hrel
      clear HBB
      obtain ⟨o1, B⟩ := hh.out
      by_cases hlt : j < N
      · obtain ⟨bb, oo, b, ia, m0, m1, m2, m3, m4, m5, hb, _⟩ := (Blks.below HO.out B).at_ (k := j) (by rw [← HN.out]; exact hlt)
        have htk : L.take (j + 1) = L.take j ++ [b] := by rw [List.take_add_one, hb.out]; rfl
        have hsn := free_snoc (L := L.take j) (b := b)
        rw [← htk] at hsn
        have hB0 := B.size
        by_cases hk : b.kind = 2
        · rw [if_pos hk] at hsn
          have k1 : (b.kind == 2) = true := by rw [beq_iff_eq]; exact hk
          have HS := Lib.hid hsn
          have hol : (free (L.take j)).length ≤ j := Nat.le_trans (List.length_filter_le _ _) (by rw [List.length_take]; omega)
          clear hsn htk hk hb
          go_upto_region 8 with (fail)
          refine wp_gen (fun Wv => Bx Wv (wr.heap.size) (38) (#[.int .i64 b.at_, .int .i64 b.size, .int .i64 b.kind, .int .i64 b.ty, .bool b.mark, .int .u64 b.next.toNat]) ∧ Below wr.heap.size wr Wv) ⟨((Bx.at_ (by simp))), ((Below.refl _ wr).alloc (by simp <;> omega) _)⟩ ?_
          rintro wa2 ⟨g2, b⟩
          replace o1 := o1.below b; replace B := B.trans (b.mono B.size); clear b
          have c_g2 := g2.cell; have f_g2 := g2.free; have a_g2 := fun o => (g2.alloc o).cell; have d_g2 := fun o o2 => ((g2.alloc o).alloc o2).cell; have e_g2 := fun o => (g2.alloc o).free
          have hne := own_fresh o1
          go_wp2_with (at_builtin; refine wpList_append (by rfl) rfl rfl rfl Try.underlying26 info_block rfl (by omega) (by exact own_below o1 ((Below.refl _ _).alloc (Nat.le_refl _) _)) (by exact lit_block b (by simp)) (bkL_one b) (by omega) (by omega) (by exact B.alloc B.size _) (Nat.le_refl _) ?_; intro v1 w3 o3 B3 g3)
          have o4 : OwnK w3 wa1.heap.size v1 (free (L.take (j + 1))) := by rw [HS.out]; exact OwnK.of o3 (tabB_snoc _ b)
          have HZ := Lib.hid (And.intro o4 B3)
          go_roundg (N - (j + 1))
          case measure => omega
          case rel => exact ⟨j + 1, by omega, rfl, by go_num, HZ⟩
        · rw [if_neg hk, List.append_nil] at hsn
          have k1 : (b.kind == 2) = false := by rw [beq_eq_false_iff_ne]; exact hk
          have HS := Lib.hid hsn
          clear hsn htk hk hb
          go_upto_region 8 with (fail)
          refine wp_gen (fun Wv => Bx Wv (wr.heap.size) (38) (#[.int .i64 b.at_, .int .i64 b.size, .int .i64 b.kind, .int .i64 b.ty, .bool b.mark, .int .u64 b.next.toNat]) ∧ Below wr.heap.size wr Wv) ⟨((Bx.at_ (by simp))), ((Below.refl _ wr).alloc (by simp <;> omega) _)⟩ ?_
          rintro wa3 ⟨g2, b⟩
          replace o1 := o1.below b; replace B := B.trans (b.mono B.size); clear b
          have c_g2 := g2.cell; have f_g2 := g2.free; have a_g2 := fun o => (g2.alloc o).cell; have d_g2 := fun o o2 => ((g2.alloc o).alloc o2).cell; have e_g2 := fun o => (g2.alloc o).free
          have HZ := Lib.hid (And.intro o1 B)
          rw [← HS.out] at HZ
          go_wp2
          go_roundg (N - (j + 1))
          case measure => omega
          case rel => exact ⟨j + 1, by omega, rfl, by go_num, HZ⟩
      · obtain rfl : j = N := by omega
        have e : free (L.take j) = F := by rw [HF.out, HN.out, List.take_length]
        rw [e] at o1
        clear e
        obtain ⟨B0, hB1⟩ := HB.out
        have HBZ := Lib.hid (And.intro (o1.mono hB1) (B0.trans (B.mono hB1)))
        clear o1 B B0
        go_wp2
        go_ret2
        exact ⟨_, rfl, HBZ.out⟩
end Go.Proofs.Ythlappdngpjdeaa
namespace Go.Proofs.Ythlappdngpjdeaa.L19
open L02 L07 L13 L14 L15 L16 L18 L20
/-- the error of a handle of an image -/
def askI (l : List UInt64) (sl g : Int) : Int := if chk19 l = 0 then resErr l sl g else chk19 l
def atI (l : List UInt64) (sl g : Int) : Int := if askI l sl g = 0 then res l sl g else 0
/-- the error of a field, its address, its kind -/
def kiErr (l : List UInt64) (sl g n : Int) : Int := if askI l sl g = 0 then (if 0 ≤ n ∧ n < (kinds (seen l) sl).length then 0 else 2) else askI l sl g
def kiAt (l : List UInt64) (sl g n : Int) : Int := if kiErr l sl g n = 0 then res l sl g + 2 + n else 0
def kiK (l : List UInt64) (sl g n : Int) : UInt8 := if kiErr l sl g n = 0 then (kinds (seen l) sl).getD n.toNat 0 else 0
def wdI (l : List UInt64) (sl g n : Int) : UInt64 := l.getD (kiAt l sl g n).toNat 0
def giE (l : List UInt64) (sl g n : Int) : Int := if kiErr l sl g n = 0 then (if (kiK l sl g n).toNat = 3 then 42 else 0) else kiErr l sl g n
def siL (l : List UInt64) (sl g n : Int) (x : UInt64) : List (Int × UInt64) := if giE l sl g n = 0 then [(kiAt l sl g n, setV (kiK l sl g n) x)] else []
/-- a handle that is right: its slot, its object -/
structure Hd (l : List UInt64) (k a nn q : Nat) (sg : Int) (b : Hb) (t : List UInt8) : Prop where
  rt : Rt l
  hk : k < 16
  hs : (slots l)[k]? = some ⟨sg, true, a⟩
  ho : (O19 l)[nn]? = some b
  hat : b.at_ = a
  hty : b.ty = q
  hT : (T19 l)[q]? = some t
  hkB : kindsB (T19 l) b = t
  ha1 : 128 ≤ a
  ha2 : a < 2048
  hle : a + 2 + t.length ≤ l.length
  hn8 : t.length ≤ 8
  hres : res l k sg = a
  hr : resErr l k sg = 0
  hask : askI l k sg = 0
  hati : atI l k sg = a
  hnn : nn < 960
theorem Hd.of {l : List UInt64} {sl g : Int} (h : askI l sl g = 0) : ∃ k a nn q b t, sl = ((k : Nat) : Int) ∧ Hd l k a nn q g b t := by
  have h0 := h
  unfold askI at h
  split at h
  · rename_i hc
    have rt : Rt l := Rt.of hc
    obtain ⟨_, k, s, hk, e1, hs, hu, hg, hr, e2⟩ := resErr_ok h
    obtain ⟨sg, su, sa⟩ := s
    dsimp only at hu hg e2
    subst hu; subst hg
    obtain ⟨nn, b, i1, i2, i3, i4⟩ := idx_of (rt.slots _ (List.mem_of_getElem? hs) rfl)
    dsimp only at i1 i3
    obtain ⟨a, q, t, ha, hq, hTq, hkB, ha1, ha2, hle, hn8⟩ : ∃ (a q : Nat) (t : List UInt8), b.at_ = a ∧ b.ty = q ∧ (T19 l)[q]? = some t ∧ kindsB (T19 l) b = t ∧ 128 ≤ a ∧ a ≤ 2048 ∧ a + 2 + t.length ≤ l.length ∧ t.length ≤ 8 := by
      have hb := List.mem_of_getElem? i2
      obtain ⟨a, h1, h2, h3, h4, h5, h6, h7, h8, _⟩ := objs_at rt.al hb
      have hty : Typed (T19 l) b := rt.good 8 (by omega) (by omega) b hb
      have hok : BkOk b := by rw [h6]; exact stand_ok h5
      obtain ⟨q, hq⟩ := Int.eq_ofNat_of_zero_le hok.bounds.2.2.2.2.1
      have hlt : q < (T19 l).length := by have := hty.1; omega
      have hT : (T19 l)[q]? = some (T19 l)[q] := List.getElem?_eq_getElem hlt
      have hkB : kindsB (T19 l) b = (T19 l)[q] := by unfold kindsB; rw [hq, Int.toNat_natCast, List.getD_eq_getElem?_getD, hT]; rfl
      have hsz := hty.2
      rw [hkB] at hsz
      have := rt.sz.2.1
      exact ⟨a, q, _, h2, hq, hT, hkB, h1, by omega, by omega, (kErr_ok ((T19_ok rt.ty).2 _ (List.mem_of_getElem? hT))).1⟩
    have hsa : sa = a := by rw [← ha, i3]
    subst hsa
    have hOl := objs_len rt.al
    subst e1
    refine ⟨k, a, nn, q, b, t, rfl, rt, hk, hs, i2, ha, hq, hTq, hkB, ha1, ?_, hle, hn8, e2, h, h0, ?_, by omega⟩
    · have := rt.sz.2.1; omega
    · rw [atI, if_pos h0, e2]
  · omega
theorem Hd.own {l : List UInt64} {k a nn q : Nat} {sg : Int} {b : Hb} {t : List UInt8} (h : Hd l k a nn q sg b t) : own (seen l) k = nn := by
  unfold L20.own seen
  rw [Int.toNat_natCast, List.getD_eq_getElem?_getD, List.getElem?_map, h.hs, Option.map_some]
  unfold slOf
  rw [if_pos rfl, ← h.hat, idx_at h.rt.al h.ho]
  rfl
theorem Hd.ob {l : List UInt64} {k a nn q : Nat} {sg : Int} {b : Hb} {t : List UInt8} (h : Hd l k a nn q sg b t) : ob (seen l) nn = obOf l (T19 l) (O19 l) b := by
  unfold L20.ob seen
  rw [List.getD_eq_getElem?_getD, List.getElem?_map, h.ho]; rfl
theorem Hd.kinds {l : List UInt64} {k a nn q : Nat} {sg : Int} {b : Hb} {t : List UInt8} (h : Hd l k a nn q sg b t) : kinds (seen l) k = t := by
  unfold L20.kinds
  rw [h.own, h.ob]
  show kindsB (T19 l) b = t
  exact h.hkB
/-- a field that is there -/
structure Fd (l : List UInt64) (k a nn q i : Nat) (sg : Int) (b : Hb) (t : List UInt8) (kd : UInt8) (x : UInt64) : Prop where
  hd : Hd l k a nn q sg b t
  hi : i < t.length
  hkd : t[i]? = some kd
  hx : l[a + 2 + i]? = some x
  hE : kiErr l k sg i = 0
  hAt : kiAt l k sg i = ((a + 2 + i : Nat) : Int)
  hK : kiK l k sg i = kd
  hW : wdI l k sg i = x
  ref : kd.toNat = 3 → x = 0 ∨ IsObj (O19 l) x.toNat
theorem Fd.of {l : List UInt64} {sl g n : Int} (h : kiErr l sl g n = 0) : ∃ k a nn q i b t kd x, sl = ((k : Nat) : Int) ∧ n = ((i : Nat) : Int) ∧ Fd l k a nn q i g b t kd x := by
  have h0 := h
  unfold kiErr at h
  split at h
  · rename_i ha
    split at h
    · rename_i hn
      obtain ⟨k, a, nn, q, b, t, rfl, hd⟩ := Hd.of ha
      obtain ⟨i, rfl⟩ := Int.eq_ofNat_of_zero_le hn.1
      have hi : i < t.length := by have := hn.2; rw [hd.kinds] at this; omega
      have hAt : kiAt l k g i = ((a + 2 + i : Nat) : Int) := by rw [kiAt, if_pos h0, hd.hres]; omega
      have hlt : a + 2 + i < l.length := by have := hd.hle; omega
      refine ⟨k, a, nn, q, i, b, t, t[i], l[a + 2 + i], rfl, rfl, hd, hi, List.getElem?_eq_getElem hi, List.getElem?_eq_getElem hlt, h0, hAt, ?_, ?_, ?_⟩
      · rw [kiK, if_pos h0, hd.kinds, Int.toNat_natCast, List.getD_eq_getElem?_getD, List.getElem?_eq_getElem hi]; rfl
      · rw [wdI, hAt, Int.toNat_natCast, List.getD_eq_getElem?_getD, List.getElem?_eq_getElem hlt]; rfl
      · intro h3
        have := hd.rt.good 11 (by omega) (by omega) b (List.mem_of_getElem? hd.ho) i (by rw [hd.hkB]; exact hi) (by rw [hd.hkB, List.getD_eq_getElem?_getD, List.getElem?_eq_getElem hi]; exact h3)
        have hf : fw l b i = l[a + 2 + i] := by unfold fw; rw [hd.hat, Int.toNat_natCast, List.getD_eq_getElem?_getD, List.getElem?_eq_getElem hlt]; rfl
        rw [hf] at this; exact this
    · omega
  · rename_i ha; exact absurd h ha
end Go.Proofs.Ythlappdngpjdeaa.L19
namespace Go.Proofs.Ythlappdngpjdeaa.L20
open L02 L13 L18
theorem zeros_get (n i : Nat) : (List.replicate n (0 : UInt64)).getD i 0 = 0 := by
  rw [List.getD_eq_getElem?_getD, List.getElem?_replicate]; split <;> rfl
/-- what is known of an object that was allocated -/
structure Alld (m : Mo) (t : Int) (k : Nat) (g0 : Int) : Prop where
  hc : chk m = 0
  ht : 0 ≤ t ∧ t < m.types.length
  hn : m.objs.length < 960
  hk : k < 16
  hs : m.slots[k]? = some ⟨g0, false, 0⟩
  hg : 0 ≤ g0 ∧ g0 < 2147483647
  hM : allM m t = ⟨m.types, m.objs ++ [newO m t], m.slots.set k ⟨g0 + 1, true, m.objs.length⟩⟩
  hS : allS m t = k
  hG : allG m t = g0 + 1
theorem Alld.of {m : Mo} {t : Int} (h : allE m t = 0) : ∃ k g0, Alld m t k g0 := by
  have h' := h
  unfold allE at h
  split at h
  · rename_i hc
    obtain ⟨h8, h960, h16, hty, hobs, hsl⟩ := chk_ok hc
    split at h
    · rename_i ht
      split at h
      · omega
      · rename_i hnx
        split at h
        · omega
        · rename_i hl
          obtain ⟨k, hk⟩ := Option.ne_none_iff_exists'.1 hnx
          obtain ⟨_, ⟨s, hs, hu, hg1⟩, _⟩ := nextFrom_some hk
          rw [Nat.sub_zero] at hs
          have hkl : k < 16 := by have := (List.getElem?_eq_some_iff.1 hs).1; omega
          have hsk := hsl s (List.mem_of_getElem? hs)
          obtain ⟨g0, u, a⟩ := s
          dsimp only at hu hg1
          subst hu
          obtain rfl : a = 0 := hsk.2.1 rfl
          have hgd : m.slots.getD k .none = ⟨g0, false, 0⟩ := by rw [List.getD_eq_getElem?_getD, hs]; rfl
          have hg2 := hsk.1
          dsimp only at hg2
          refine ⟨k, g0, hc, ht, by omega, hkl, hs, by omega, ?_, ?_, ?_⟩
          · rw [allM, if_pos h', hk, Option.getD_some, givS, hgd]
          · rw [allS, if_pos h', hk, Option.getD_some]
          · rw [allG, if_pos h', hk, Option.getD_some, hgd]
    · omega
  · omega
section
variable {m : Mo} {t : Int} {k : Nat} {g0 : Int} (h : Alld m t k g0)
include h
/-- the new model -/
theorem Alld.slot : (m.slots.set k ⟨g0 + 1, true, m.objs.length⟩)[k]? = some ⟨g0 + 1, true, m.objs.length⟩ := by
  have h1 := (List.getElem?_eq_some_iff.1 h.hs).1
  rw [List.getElem?_set_self h1]
theorem Alld.ok : chk (allM m t) = 0 := by
  obtain ⟨h8, h960, h16, hty, hobs, hsl⟩ := chk_ok h.hc
  have hn := h.hn
  rw [h.hM]
  refine chk_zero (by simp; omega) ⟨by simpa using h16, hty, fun o ho => ?_, fun s hs => ?_⟩
  · rcases List.mem_append.1 ho with ho | ho
    · obtain ⟨a1, a2, a3⟩ := hobs o ho
      refine ⟨a1, a2, fun i hi => ?_⟩
      obtain ⟨b1, b2⟩ := a3 i hi
      exact ⟨b1, fun e => Nat.le_trans (b2 e) (by simp)⟩
    · rw [List.mem_singleton] at ho
      subst ho
      have ht := h.ht
      refine ⟨ht, by simp [newO, ty], fun i hi => ?_⟩
      simp only [newO, zeros_get]
      exact ⟨fun _ => by decide, fun _ => by simp⟩
  · rcases List.mem_or_eq_of_mem_set hs with hs | hs
    · obtain ⟨a1, a2, a3⟩ := hsl s hs
      exact ⟨a1, a2, fun e => by have := a3 e; simp; omega⟩
    · subst hs
      have := h.hg
      refine ⟨?_, ?_, ?_⟩
      · dsimp only; omega
      · intro e; cases e
      · intro _; simp; omega
theorem Alld.len : (allM m t).objs.length = m.objs.length + 1 := by rw [h.hM]; simp
theorem Alld.right : rightErr (allM m t).slots k (g0 + 1) = 0 := by
  have hk := h.hk
  have hs := h.slot
  have h16 := (chk_ok h.hc).2.2.1
  have hgd : (m.slots.set k ⟨g0 + 1, true, m.objs.length⟩).getD k .none = ⟨g0 + 1, true, m.objs.length⟩ := by rw [List.getD_eq_getElem?_getD, hs]; rfl
  rw [h.hM, rightErr, if_pos (by simp; omega), if_pos]
  rw [Int.toNat_natCast, hgd]
  exact ⟨rfl, rfl⟩
theorem Alld.own : own (allM m t) k = m.objs.length := by
  rw [L20.own, Int.toNat_natCast, h.hM, List.getD_eq_getElem?_getD, h.slot]; simp
theorem Alld.idle : ¬ Busy (allM m t) k m.objs.length := by
  obtain ⟨h8, h960, h16, hty, hobs, hsl⟩ := chk_ok h.hc
  rw [h.hM]
  rintro (⟨i, hi, hne, hu, ha⟩ | ⟨i, hi, hne, j, hj, hr⟩)
  · have hik : k ≠ i := fun e => hne (by rw [e])
    have hi' : i < m.slots.length := by simpa using hi
    have e : (m.slots.set k ⟨g0 + 1, true, m.objs.length⟩).getD i .none = m.slots[i] := by
      rw [List.getD_eq_getElem?_getD, List.getElem?_set_ne hik, List.getElem?_eq_getElem hi']; rfl
    dsimp only at hu ha
    rw [e] at hu ha
    have := (hsl _ (List.getElem_mem hi')).2.2 hu
    omega
  · have hi' : i < m.objs.length := by simp at hi; omega
    have e : ob ⟨m.types, m.objs ++ [newO m t], m.slots.set k ⟨g0 + 1, true, m.objs.length⟩⟩ i = m.objs[i] := by
      simp [ob, List.getD_eq_getElem?_getD, List.getElem?_append_left hi', List.getElem?_eq_getElem hi']
    rw [e] at hj hr
    have := ((hobs _ (List.getElem_mem hi')).2.2 j hj).2 hr.1
    have h2 := hr.2
    omega
theorem Alld.asked : asked (allM m t) k (g0 + 1) = 0 := by rw [L20.asked, if_pos h.ok, h.right]
theorem Alld.free : freeE (allM m t) k (g0 + 1) = 0 := by rw [freeE, if_pos h.asked, h.own, if_neg h.idle]
theorem Alld.freed : freeM (allM m t) k (g0 + 1) = ⟨m.types, m.objs, m.slots.set k ⟨g0 + 1, false, 0⟩⟩ := by
  obtain ⟨h8, h960, h16, hty, hobs, hsl⟩ := chk_ok h.hc
  have hn := h.hn
  rw [freeM, if_pos h.free, h.own, h.hM, Int.toNat_natCast]
  dsimp only
  congr 1
  · rw [List.map_append, List.eraseIdx_append_of_length_le (by simp)]
    simp only [List.length_map, Nat.sub_self, List.map_cons, List.map_nil, List.eraseIdx_cons_zero, List.append_nil]
    conv => rhs; rw [← List.map_id m.objs]
    refine List.map_congr_left fun o ho => ?_
    obtain ⟨a1, a2, a3⟩ := hobs o ho
    rw [lowO, id]
    obtain ⟨oty, ofs⟩ := o
    congr 1
    apply List.ext_getElem?
    intro i
    rcases Nat.lt_or_ge i ofs.length with hi | hi
    · have h3 := (a3 i hi).2
      rw [List.getElem?_map, List.getElem?_range hi, Option.map_some, List.getElem?_eq_getElem hi]
      congr 1
      have hg : ofs.getD i 0 = ofs[i] := by rw [List.getD_eq_getElem?_getD, List.getElem?_eq_getElem hi]; rfl
      rw [lowV, if_neg, hg]
      rintro ⟨c1, c2⟩
      have := h3 c1
      omega
    · rw [List.getElem?_eq_none (by simpa using hi), List.getElem?_eq_none hi]
  · rw [List.set_set]
    conv => rhs; rw [← List.map_id (m.slots.set k ⟨g0 + 1, false, 0⟩)]
    refine List.map_congr_left fun s hs => ?_
    rw [lowS, id]
    rcases List.mem_or_eq_of_mem_set hs with hs | hs
    · split
      · rename_i hu
        have := (hsl s hs).2.2 hu
        obtain ⟨sg, su, sa⟩ := s
        dsimp only at hu this ⊢
        subst hu
        rw [lowA, if_neg (by omega)]
      · rfl
    · subst hs; rfl
end
end Go.Proofs.Ythlappdngpjdeaa.L20
namespace Go.Proofs.Ythlappdngpjdeaa.L20
open L02 L13 L18
theorem ob_putF {m : Mo} {n i : Nat} {v : UInt64} (hn : n < m.objs.length) : ob (putF m n i v) n = ⟨(ob m n).ty, (ob m n).fs.set i v⟩ := by
  rw [ob, putF, List.getD_eq_getElem?_getD, List.getElem?_set_self hn]; rfl
theorem len_putF {m : Mo} {n i : Nat} {v : UInt64} : (putF m n i v).objs.length = m.objs.length := by simp [putF]
theorem chk_putF {m : Mo} {n i : Nat} {v : UInt64} (hc : chk m = 0) (hn : n < m.objs.length) (hv : i < (ob m n).fs.length → FdOk m.objs.length ((ty m.types (ob m n)).getD i 0) v) : chk (putF m n i v) = 0 := by
  obtain ⟨h8, h960, h16, hty, hobs, hsl⟩ := chk_ok hc
  refine chk_zero (by rw [len_putF]; simp only [putF]; omega) ⟨h16, hty, fun o ho => ?_, fun s hs => ?_⟩
  · rw [len_putF]
    show ObOk m.types m.objs.length o
    rcases List.mem_or_eq_of_mem_set ho with ho | ho
    · exact hobs o ho
    · have hob : ob m n ∈ m.objs := by rw [ob, List.getD_eq_getElem?_getD, List.getElem?_eq_getElem hn]; exact List.getElem_mem hn
      obtain ⟨a1, a2, a3⟩ := hobs _ hob
      subst ho
      refine ⟨a1, by rw [List.length_set]; exact a2, fun j hj => ?_⟩
      have hj' : j < (ob m n).fs.length := by simpa using hj
      show FdOk m.objs.length ((ty m.types (ob m n)).getD j 0) (((ob m n).fs.set i v).getD j 0)
      by_cases hij : i = j
      · subst hij
        rw [show ((ob m n).fs.set i v).getD i 0 = v by rw [List.getD_eq_getElem?_getD, List.getElem?_set_self hj']; rfl]
        exact hv hj'
      · rw [show ((ob m n).fs.set i v).getD j 0 = (ob m n).fs.getD j 0 by rw [List.getD_eq_getElem?_getD, List.getElem?_set_ne hij, ← List.getD_eq_getElem?_getD]]
        exact a3 j hj'
  · rw [len_putF]; exact hsl s hs
theorem asked_putF {m : Mo} {n i : Nat} {v : UInt64} {sl g : Int} (hc : chk m = 0) (hp : chk (putF m n i v) = 0) : asked (putF m n i v) sl g = asked m sl g := by
  rw [asked, asked, if_pos hc, if_pos hp]; rfl
theorem own_putF {m : Mo} {n i : Nat} {v : UInt64} {sl : Int} : own (putF m n i v) sl = own m sl := rfl
theorem kinds_putF {m : Mo} {n i : Nat} {v : UInt64} {sl : Int} (hn : n < m.objs.length) (ho : own m sl = n) : kinds (putF m n i v) sl = kinds m sl := by
  rw [kinds, kinds, own_putF, ho, ob_putF hn]; rfl
end Go.Proofs.Ythlappdngpjdeaa.L20
