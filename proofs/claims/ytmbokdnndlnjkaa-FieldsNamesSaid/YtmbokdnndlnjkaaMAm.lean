/- Contracts of the functions that the laws 'A' reach, part 13. No condition. -/
import Derived.Test.YtmbokdnndlnjkaaMAl
set_option linter.unusedVariables false
set_option linter.unusedSimpArgs false
namespace Go.Proofs.Ytmbokdnndlnjkaa
open Go.RowKit L02 L13 L18 L20
theorem size_obj : (Try.prog.info? 135).map (·.size) = some 2 := by kernel_rfl
/-- the cells of objects, whose fields are the slices vs -/
def obC : List Ob → List Value → List Value
  | o :: L, x :: vs => i64 o.ty :: x :: obC L vs
  | _, _ => []
theorem obC_len : ∀ {L : List Ob} {vs : List Value}, vs.length = L.length → (obC L vs).length = L.length * 2
  | [], _, _ => rfl
  | o :: L, [], h => by simp at h
  | o :: L, x :: vs, h => by rw [obC, List.length_cons, List.length_cons, obC_len (by simpa using h), List.length_cons]; omega
theorem obC_get : ∀ {L : List Ob} {vs : List Value} {k : Nat} {o : Ob} {x : Value}, L[k]? = some o → vs[k]? = some x → (obC L vs)[k * 2]? = some (i64 o.ty) ∧ (obC L vs)[k * 2 + 1]? = some x
  | [], _, _, _, _, h, _ => by simp at h
  | o :: L, [], _, _, _, _, h => by simp at h
  | o :: L, x :: vs, 0, o', x', h, h' => by simp at h h'; subst h; subst h'; simp [obC]
  | o :: L, x :: vs, k + 1, o', x', h, h' => by
    have := obC_get (L := L) (vs := vs) (k := k) (by simpa using h) (by simpa using h')
    rw [obC, show (k + 1) * 2 = k * 2 + 1 + 1 by omega, show k * 2 + 1 + 1 + 1 = (k * 2 + 1) + 1 + 1 by omega]
    simpa using this
theorem obC_snoc : ∀ {L : List Ob} {vs : List Value} {o : Ob} {x : Value}, vs.length = L.length → obC (L ++ [o]) (vs ++ [x]) = obC L vs ++ [i64 o.ty, x]
  | [], [], _, _, _ => rfl
  | [], x :: vs, _, _, h => by simp at h
  | o :: L, [], _, _, h => by simp at h
  | o :: L, x :: vs, o', x', h => by
    rw [List.cons_append, List.cons_append, obC, obC_snoc (by simpa using h), obC]; rfl
/-- A slice of objects. -/
def Objs (w : World) (v : Value) (L : List Ob) : Prop := ∃ vs : List Value, vs.length = L.length ∧ Rd w 2 v L.length (obC L vs) ∧ ∀ (i : Nat) x o, vs[i]? = some x → L[i]? = some o → Words w x o.fs
/-- .. of the call's own, their fields too, which lie apart -/
def OwnO (w : World) (base : Nat) (v : Value) (L : List Ob) : Prop := ∃ vs : List Value, vs.length = L.length ∧ w.ownsRow base 135 2 v L.length (obC L vs) ∧ (∀ (i : Nat) x o, vs[i]? = some x → L[i]? = some o → OwnW w base 24 x o.fs) ∧
  ∀ (i j : Nat) x y, i ≠ j → vs[i]? = some x → vs[j]? = some y → x.ownBlock = none ∨ x.ownBlock ≠ y.ownBlock
theorem OwnO.rd {w : World} {base : Nat} {v : Value} {L : List Ob} (h : OwnO w base v L) : Objs w v L := by
  obtain ⟨vs, h1, h2, h4, _⟩ := h; exact ⟨vs, h1, Rd.of_own h2, fun i x l h5 h6 => (h4 i x l h5 h6).rd⟩
theorem Objs.below {w w' : World} {v : Value} {L : List Ob} (h : Objs w v L) (hb : Below w.heap.size w w') : Objs w' v L := by
  obtain ⟨vs, h1, h2, h3⟩ := h; exact ⟨vs, h1, h2.below hb, fun i x l h4 h5 => (h3 i x l h4 h5).below hb⟩
theorem OwnO.below {w w' : World} {base : Nat} {v : Value} {L : List Ob} (h : OwnO w base v L) (hb : Below w.heap.size w w') : OwnO w' base v L := by
  obtain ⟨vs, h1, h2, h4, h5⟩ := h; exact ⟨vs, h1, own_below h2 hb, fun i x l h5 h6 => (h4 i x l h5 h6).below hb, h5⟩
theorem OwnO.mono {w : World} {base base' : Nat} {v : Value} {L : List Ob} (h : OwnO w base v L) (hb : base' ≤ base) : OwnO w base' v L := by
  obtain ⟨vs, h1, h2, h4, h5⟩ := h; exact ⟨vs, h1, own_mono h2 hb, fun i x l h5 h6 => own_mono (h4 i x l h5 h6) hb, h5⟩
theorem OwnT.mono {w : World} {base base' : Nat} {v : Value} {L : List (List UInt8)} (h : OwnT w base v L) (hb : base' ≤ base) : OwnT w base' v L := by
  obtain ⟨vs, h1, h2, h4⟩ := h; exact ⟨vs, h1, own_mono h2 hb, fun i x l h5 h6 => own_mono (h4 i x l h5 h6) hb⟩
theorem OwnO.nil (w : World) (base : Nat) : OwnO w base (.slice none 0 0) [] := ⟨[], rfl, World.ownsRow_nil w base _ 2, fun i x l h => by simp at h, fun i j x y _ h => by simp at h⟩
theorem Objs.nil (w : World) : Objs w (.slice none 0 0) [] := (OwnO.nil w 0).rd
theorem Typs.nil (w : World) : Typs w (.slice none 0 0) [] := (OwnT.nil w 0).rd
theorem Slots.nil (w : World) : Slots w (.slice none 0 0) [] := Rd.nil w 3
theorem Objs.len {w : World} {v : Value} {L : List Ob} (h : Objs w v L) : ∀ ty W, (Builtin.len_ #[83] ty #[v]).run Try.prog W = .ok (.int .i64 (L.length : Int)) W := by
  obtain ⟨vs, h1, h2, h3⟩ := h; exact Rd.len h2 Try.underlying83
theorem Objs.len_le {w : World} {v : Value} {L : List Ob} (h : Objs w v L) : L.length ≤ 9223372036854775807 := by
  obtain ⟨vs, h1, h2, h3⟩ := h; exact Rd.len_le h2
theorem Slots.len {w : World} {v : Value} {L : List Sl} (h : Slots w v L) : ∀ ty W, (Builtin.len_ #[60] ty #[v]).run Try.prog W = .ok (.int .i64 (L.length : Int)) W := Rd.len h Try.underlying60
theorem Slots.len_le {w : World} {v : Value} {L : List Sl} (h : Slots w v L) : L.length ≤ 9223372036854775807 := Rd.len_le h
theorem Objs.at_ {w : World} {v : Value} {L : List Ob} (h : Objs w v L) {k : Nat} (hk : k < L.length) :
    ∃ b q x o, (∀ W, (Instr.indexAt 83 v (.int .i64 (k : Int))).run Try.prog W = .ok (.pointer (some ⟨b, q, none⟩)) W) ∧ w.cell? ⟨b, q, none⟩ = some (.int .i64 o.ty) ∧ w.cell? ⟨b, q + 1, none⟩ = some x ∧ Hid (L[k]? = some o) ∧ Hid (Words w x o.fs) ∧ b < w.heap.size := by
  obtain ⟨vs, h1, h2, h3⟩ := h
  have hv : vs[k]? = some vs[k] := List.getElem?_eq_getElem (by omega)
  have hl : L[k]? = some L[k] := List.getElem?_eq_getElem hk
  have hix := fun W => Rd.ixN h2 Try.underlying83 size_obj hk W
  obtain ⟨b, q, c, rfl, hb, hc, hcell⟩ := Rd.form h2 (by omega)
  obtain ⟨c0, c1⟩ := obC_get hl hv
  exact ⟨b, q + k * 2, vs[k], L[k], fun W => hix W, hcell _ _ c0, hcell _ _ c1, Lib.hid hl, Lib.hid (h3 k _ _ hv hl), hb⟩
theorem Words.oneCell {w : World} {x : Value} {l : List UInt64} (h : Words w x l) : x.oneCell' = true := by
  obtain ⟨A, c, rfl, _⟩ := h; rfl
theorem Typs.oneCell {w : World} {x : Value} {l : List (List UInt8)} (h : Typs w x l) : x.oneCell' = true := by
  obtain ⟨_, _, ⟨A, c, rfl, _⟩, _⟩ := h; rfl
theorem Objs.oneCell {w : World} {x : Value} {l : List Ob} (h : Objs w x l) : x.oneCell' = true := by
  obtain ⟨_, _, ⟨A, c, rfl, _⟩, _⟩ := h; rfl
theorem Slots.oneCell {w : World} {x : Value} {l : List Sl} (h : Slots w x l) : x.oneCell' = true := by
  obtain ⟨A, c, rfl, _⟩ := h; rfl
/-- A model: three slices. -/
structure Mod (w : World) (tv ov sv : Value) (m : Mo) : Prop where
  t : Typs w tv m.types
  o : Objs w ov m.objs
  s : Slots w sv m.slots
structure OwnM (w : World) (base E : Nat) (tv ov sv : Value) (m : Mo) : Prop where
  t : OwnT w base tv m.types
  o : OwnO w base ov m.objs
  s : OwnS w base E sv m.slots
theorem Mod.below {w w' : World} {tv ov sv : Value} {m : Mo} (h : Mod w tv ov sv m) (hb : Below w.heap.size w w') : Mod w' tv ov sv m := ⟨h.t.below hb, h.o.below hb, h.s.below hb⟩
theorem OwnM.below {w w' : World} {base E : Nat} {tv ov sv : Value} {m : Mo} (h : OwnM w base E tv ov sv m) (hb : Below w.heap.size w w') : OwnM w' base E tv ov sv m := ⟨h.t.below hb, h.o.below hb, h.s.below hb⟩
theorem OwnM.rd {w : World} {base E : Nat} {tv ov sv : Value} {m : Mo} (h : OwnM w base E tv ov sv m) : Mod w tv ov sv m := ⟨h.t.rd, h.o.rd, h.s.rd⟩
theorem OwnM.mono {w : World} {base base' E : Nat} {tv ov sv : Value} {m : Mo} (h : OwnM w base E tv ov sv m) (hb : base' ≤ base) : OwnM w base' E tv ov sv m := ⟨h.t.mono hb, h.o.mono hb, own_mono h.s hb⟩
theorem Mod.nil (w : World) : Mod w (.slice none 0 0) (.slice none 0 0) (.slice none 0 0) .nil := ⟨Typs.nil w, Objs.nil w, Slots.nil w⟩
end Go.Proofs.Ytmbokdnndlnjkaa
namespace Go.Proofs.Ytmbokdnndlnjkaa
open Go.RowKit L02 L13 L18 L20
end Go.Proofs.Ytmbokdnndlnjkaa
namespace Go.Proofs.Ytmbokdnndlnjkaa
open Go.RowKit L02 L13 L18 L20
end Go.Proofs.Ytmbokdnndlnjkaa
namespace Go.Proofs.Ytmbokdnndlnjkaa
open Go.RowKit L02 L13 L18 L20
end Go.Proofs.Ytmbokdnndlnjkaa
namespace Go.Proofs.Ytmbokdnndlnjkaa
open Go.RowKit L02 L13 L18 L20
end Go.Proofs.Ytmbokdnndlnjkaa
namespace Go.Proofs.Ytmbokdnndlnjkaa
open Go.RowKit L02 L13 L18 L20
end Go.Proofs.Ytmbokdnndlnjkaa
namespace Go.Proofs.Ytmbokdnndlnjkaa
open Go Go.RowKit
section
variable {P : Program} {ops : Array Oper} {md : Region.Mode}
def uponV (Post : World → Prop) (v : Value) : Result Next → Prop
  | .ok (.value u) w' => u = v ∧ Post w'
  | .ok .skip w' => v = undef ∧ Post w'
  | _ => False
def YieldsV (P : Program) (md : Region.Mode) (ops : Array Oper) (C : Array Bool → World → Prop) (i : Nat) (o : Oper) (v : Value) (a : Act) : Prop :=
  (Region.wanted o (yielded ops a.tmps) = true ∧ ∀ listed w, i ∈ Region.ready md ops listed → C listed w → uponV (C (listed.setIfInBounds i true)) v ((execOp a.eval o).run P w)) ∨
  (Region.wanted o (yielded ops a.tmps) = false ∧ v = undef ∧ ∀ listed w, i ∈ Region.ready md ops listed → C listed w → C (listed.setIfInBounds i true) w)
/-- number k0 yields the value x, whatever its world; the others as they do -/
def YieldsG (P : Program) (md : Region.Mode) (ops : Array Oper) (C : Array Bool → World → Prop) (k0 : Nat) (x : Value) (i : Nat) (o : Oper) (v : Value) (a : Act) : Prop :=
  (i = k0 ∧ v = x ∧ Region.wanted o (yielded ops a.tmps) = true) ∨ (i ≠ k0 ∧ YieldsV P md ops C i o v a)
theorem YieldsV.of_same {C : Array Bool → World → Prop} {i : Nat} {o : Oper} {v : Value} {a a' : Act} (hy : YieldsV P md ops C i o v a) (he : execOp a'.eval o = execOp a.eval o)
    (hw : Region.wanted o (yielded ops a'.tmps) = Region.wanted o (yielded ops a.tmps)) : YieldsV P md ops C i o v a' := by
  unfold YieldsV at *
  rw [he, hw]
  exact hy
/-- what is known of the operation k0: whatever it runs on, it runs alike at two acts -/
def G0 (k0 : Nat) (T : Act → Prop) (ops : Array Oper) : Prop := ∀ o, ops[k0]? = some o → ∀ a a' : Act, execOp a'.eval o = execOp a.eval o → T a → T a'
theorem YieldsG.of_same {C : Array Bool → World → Prop} {k0 : Nat} {x : Value} {i : Nat} {o : Oper} {v : Value} {a a' : Act} (hy : YieldsG P md ops C k0 x i o v a) (he : execOp a'.eval o = execOp a.eval o)
    (hw : Region.wanted o (yielded ops a'.tmps) = Region.wanted o (yielded ops a.tmps)) : YieldsG P md ops C k0 x i o v a' := by
  rcases hy with ⟨h1, h2, h3⟩ | ⟨h1, h2⟩
  · exact .inl ⟨h1, h2, by rw [hw]; exact h3⟩
  · exact .inr ⟨h1, h2.of_same he hw⟩
variable {C : Array Bool → World → Prop} {k0 : Nat} {x : Value} {T : Sem Next → Prop}
theorem uponV_val {Post Post' : World → Prop} {v v' : Value} {r : Result Next} (h : uponV Post v r) (h' : uponV Post' v' r) : v = v' := by
  cases r with
  | ok n w' =>
    cases n <;> simp only [uponV] at h h'
    · rw [← h.1, ← h'.1]
    · rw [h.1, h'.1]
  | halt y w' => simp only [uponV] at h
end
section
variable {P : Program} {ops : Array Oper} {rest : List Oper} {o : Oper} {a : Act} {Q : Act → Prop} {F : (Nat → Bool) → World → Prop} {js : List Nat} {k k0 : Nat} {md : Region.Mode} {x : Value} {T : Sem Next → Prop}
end
end Go.Proofs.Ytmbokdnndlnjkaa
namespace Go.Proofs.Ytmbokdnndlnjkaa
open Go.RowKit L02 L13 L18 L20
end Go.Proofs.Ytmbokdnndlnjkaa
namespace Go.Proofs.Ytmbokdnndlnjkaa
open Go.RowKit L02 L13 L18 L20
theorem OwnT.set {w : World} {B p i : Nat} {v u : Value} {L : List (List UInt8)} {t : TypeId} {cs : Array Value} (h : OwnT w B v L) (hg : Bx w p t cs) (h1 : 28 ≠ t) (h2 : 5 ≠ t) : OwnT (w.setCell ⟨p, i, none⟩ u) B v L := by
  obtain ⟨vs, a1, a2, a4⟩ := h; exact ⟨vs, a1, own_set a2 hg h1, fun i x l h5 h6 => own_set (a4 i x l h5 h6) hg h2⟩
theorem OwnO.set {w : World} {B p i : Nat} {v u : Value} {L : List Ob} {t : TypeId} {cs : Array Value} (h : OwnO w B v L) (hg : Bx w p t cs) (h1 : 135 ≠ t) (h2 : 24 ≠ t) : OwnO (w.setCell ⟨p, i, none⟩ u) B v L := by
  obtain ⟨vs, a1, a2, a4, a5⟩ := h; exact ⟨vs, a1, own_set a2 hg h1, fun i x l h5 h6 => own_set (a4 i x l h5 h6) hg h2, a5⟩
/-- one more object: xs the slices of fields, x the new one; the row was appended to. -/
theorem OwnO.snoc {w w' : World} {base n : Nat} {v v' x : Value} {L : List Ob} {o : Ob} {vs : List Value} (h1 : vs.length = L.length) (ho0 : w.ownsRow base 135 2 v L.length (obC L vs)) (ho : w'.ownsRow base 135 2 v' n (obC L vs ++ [i64 o.ty, x]))
    (h4 : ∀ (i : Nat) x l, vs[i]? = some x → L[i]? = some l → OwnW w base 24 x l.fs) (h5 : ∀ (i j : Nat) x y, i ≠ j → vs[i]? = some x → vs[j]? = some y → x.ownBlock = none ∨ x.ownBlock ≠ y.ownBlock)
    (hx : OwnW w base 24 x o.fs) (hap : ∀ (i : Nat) y, vs[i]? = some y → (x.ownBlock = none ∨ x.ownBlock ≠ y.ownBlock) ∧ (y.ownBlock = none ∨ y.ownBlock ≠ x.ownBlock)) (hg : w.grownBy w' v.ownBlock) : OwnO w' base v' (L ++ [o]) := by
  have hn : n = (L ++ [o]).length := by have := ho.1; rw [List.length_append, obC_len h1] at this; simp at this ⊢; omega
  subst hn
  have keep : ∀ y m, OwnW w base 24 y m → OwnW w' base 24 y m := fun y m hy => World.ownsRow.kept hy hg (own_unlike hy ho0 (by decide))
  have idx : ∀ i, i ≥ vs.length → ∀ y, (vs ++ [x])[i]? = some y → i = vs.length ∧ y = x := by
    intro i hi y hy
    rw [List.getElem?_append_right hi] at hy
    have h0 : i - vs.length = 0 := by
      rcases Nat.eq_zero_or_pos (i - vs.length) with h | h
      · exact h
      · rw [List.getElem?_eq_none (by simp; omega)] at hy; cases hy
    rw [h0] at hy
    simp at hy
    exact ⟨by omega, hy.symm⟩
  refine ⟨vs ++ [x], by simp [h1], by rw [obC_snoc h1]; exact ho, fun i y l hy hl => ?_, fun i j y z hij hy hz => ?_⟩
  · by_cases hi : i < vs.length
    · rw [List.getElem?_append_left hi] at hy
      rw [List.getElem?_append_left (by omega)] at hl
      exact keep _ _ (h4 i y l hy hl)
    · obtain ⟨rfl, rfl⟩ := idx i (by omega) y hy
      rw [List.getElem?_append_right (by omega), h1] at hl
      simp at hl; subst hl
      exact keep _ _ hx
  · by_cases hi : i < vs.length
    · rw [List.getElem?_append_left hi] at hy
      by_cases hj : j < vs.length
      · rw [List.getElem?_append_left hj] at hz
        exact h5 i j y z hij hy hz
      · obtain ⟨_, rfl⟩ := idx j (by omega) z hz
        exact (hap i y hy).2
    · obtain ⟨e1, rfl⟩ := idx i (by omega) y hy
      by_cases hj : j < vs.length
      · rw [List.getElem?_append_left hj] at hz
        exact (hap j z hz).1
      · obtain ⟨e2, rfl⟩ := idx j (by omega) z hz
        omega
theorem OwnT.kept {w w' : World} {B B2 e n sz : Nat} {v a : Value} {L : List (List UInt8)} {xs : List Value} (h : OwnT w B v L) (ha : w.ownsRow B2 e sz a n xs) (hg : w.grownBy w' a.ownBlock) (h1 : 28 ≠ e) (h2 : 5 ≠ e) : OwnT w' B v L := by
  obtain ⟨vs, a1, a2, a4⟩ := h
  exact ⟨vs, a1, World.ownsRow.kept a2 hg (own_unlike a2 ha h1), fun i x l h5 h6 => World.ownsRow.kept (a4 i x l h5 h6) hg (own_unlike (a4 i x l h5 h6) ha h2)⟩
theorem OwnM.set {w : World} {B p i : Nat} {tv ov sv u : Value} {m : Mo} {cs : Array Value} (h : OwnM w B 46 tv ov sv m) (hg : Bx w p 85 cs) : OwnM (w.setCell ⟨p, i, none⟩ u) B 46 tv ov sv m :=
  ⟨h.t.set hg (by decide) (by decide), h.o.set hg (by decide) (by decide), own_set h.s hg (by decide)⟩
/-- a model's three cells are stored elsewhere -/
theorem OwnM.set3 {w : World} {B p : Nat} {tv ov sv a b c : Value} {m : Mo} {cs : Array Value} (h : OwnM w B 46 tv ov sv m) (hg : Bx w p 85 cs) :
    OwnM (((w.setCell ⟨p, 0, none⟩ a).setCell ⟨p, 1, none⟩ b).setCell ⟨p, 2, none⟩ c) B 46 tv ov sv m :=
  ((h.set hg).set (hg.set a)).set ((hg.set a).set b)
end Go.Proofs.Ytmbokdnndlnjkaa
namespace Go.Proofs.Ytmbokdnndlnjkaa
open Go.RowKit L02 L13 L18 L20
structure GCopy where
  y : Value
  W1 : World
  v : Value
  W3 : World
end Go.Proofs.Ytmbokdnndlnjkaa
namespace Go.Proofs.Ytmbokdnndlnjkaa
open Go.RowKit L02 L13 L18 L20
end Go.Proofs.Ytmbokdnndlnjkaa
namespace Go.Proofs.Ytmbokdnndlnjkaa
open Go.RowKit L02 L13 L18 L20
end Go.Proofs.Ytmbokdnndlnjkaa
namespace Go.Proofs.Ytmbokdnndlnjkaa
open Go.RowKit L02 L13 L18 L20
end Go.Proofs.Ytmbokdnndlnjkaa
namespace Go.Proofs.Ytmbokdnndlnjkaa
open Go Go.RowKit
section
variable {P : Program} {ops : Array Oper} {md : Region.Mode}
/-- a number of nn yields its value, whatever its world; the others as they do -/
def YieldsM (P : Program) (md : Region.Mode) (ops : Array Oper) (C : Array Bool → World → Prop) (nn : Nat → Bool) (x : Nat → Value) (i : Nat) (o : Oper) (v : Value) (a : Act) : Prop :=
  (nn i = true ∧ v = x i ∧ Region.wanted o (yielded ops a.tmps) = true) ∨ (nn i = false ∧ YieldsV P md ops C i o v a)
theorem YieldsM.of_same {C : Array Bool → World → Prop} {nn : Nat → Bool} {x : Nat → Value} {i : Nat} {o : Oper} {v : Value} {a a' : Act} (hy : YieldsM P md ops C nn x i o v a) (he : execOp a'.eval o = execOp a.eval o)
    (hw : Region.wanted o (yielded ops a'.tmps) = Region.wanted o (yielded ops a.tmps)) : YieldsM P md ops C nn x i o v a' := by
  rcases hy with ⟨h1, h2, h3⟩ | ⟨h1, h2⟩
  · exact .inl ⟨h1, h2, by rw [hw]; exact h3⟩
  · exact .inr ⟨h1, h2.of_same he hw⟩
/-- T a: what the operation k0 does at the act a -/
def qOpM (P : Program) (md : Region.Mode) (ops : Array Oper) (C : Array Bool → World → Prop) (nn : Nat → Bool) (x : Nat → Value) (T : Nat → Sem Next → Prop) (i : Nat) (K : Act → Prop) (a : Act) : Prop :=
  match ops[i]? with
  | none => False
  | some o => ∃ v, (YieldsM P md ops C nn x i o v a ∧ (nn i = true → T i (execOp a.eval o))) ∧ K (a.put o.dst v)
variable {C : Array Bool → World → Prop} {nn : Nat → Bool} {x : Nat → Value} {T : Nat → Sem Next → Prop}
theorem qOpM_mono {i : Nat} {a : Act} {K K' : Act → Prop} (h : ∀ a, K a → K' a) (hh : qOpM P md ops C nn x T i K a) : qOpM P md ops C nn x T i K' a := by
  unfold qOpM at *
  split
  · rename_i ho; simp only [ho] at hh
  · rename_i o ho
    simp only [ho] at hh
    obtain ⟨v, h1, h2⟩ := hh
    exact ⟨v, h1, h _ h2⟩
def wpAnyM (P : Program) (md : Region.Mode) (ops : Array Oper) (C : Array Bool → World → Prop) (nn : Nat → Bool) (x : Nat → Value) (T : Nat → Sem Next → Prop) (Q : Array Bool → Act → Prop) : Nat → Array Bool → Act → Prop
  | 0, listed, a => Region.ready md ops listed = [] ∧ Q listed a
  | fuel + 1, listed, a =>
    (Region.ready md ops listed = [] → Q listed a) ∧
    ∀ i ∈ Region.ready md ops listed, qOpM P md ops C nn x T i (wpAnyM P md ops C nn x T Q fuel (listed.setIfInBounds i true)) a
theorem qOpM_put {i j : Nat} {oi oj : Oper} {v : Value} (hj : ops[j]? = some oj) (hap : oi.apart ops oj = true)
    (hsi : ∀ cs b, oi.op ≠ .select cs b) (hsj : ∀ cs b, oj.op ≠ .select cs b) {K : Act → Prop} {a : Act}
    (hy : YieldsM P md ops C nn x i oi v a ∧ (nn i = true → T i (execOp a.eval oi))) (h : qOpM P md ops C nn x T j K (a.put oi.dst v)) :
    qOpM P md ops C nn x T j (fun a' => (YieldsM P md ops C nn x i oi v a' ∧ (nn i = true → T i (execOp a'.eval oi))) ∧ K (a'.put oi.dst v)) a := by
  obtain ⟨h1, h2, h3⟩ := Oper.apart_spec hap
  unfold qOpM at *
  simp only [hj] at *
  obtain ⟨u, ⟨hu, hu2⟩, hn⟩ := h
  refine ⟨u, ⟨hu.of_same ?_ ?_, fun e => ?_⟩, ⟨hy.1.of_same ?_ ?_, fun e => ?_⟩, ?_⟩
  · exact (execOp_put oj hsj a oi.dst v h1).symm
  · exact (wanted_put oj a oi.dst v h1).symm
  · have := hu2 e; rwa [execOp_put oj hsj a oi.dst v h1] at this
  · exact execOp_put oi hsi a oj.dst u h3
  · exact wanted_put oi a oj.dst u h3
  · have := hy.2 e; rwa [execOp_put oi hsi a oj.dst u h3]
  · rw [← Act.put_comm a v u h2]; exact hn
theorem wpAnyM_first {Q : Array Bool → Act → Prop} {i : Nat} {oi : Oper} {v : Value} (hi : ops[i]? = some oi) (hsel : ∀ (j : Nat) (o : Oper) cs b, ops[j]? = some o → o.op ≠ .select cs b) :
    ∀ (fuel : Nat) (listed : Array Bool) (a : Act),
      (∀ j oj, ops[j]? = some oj → j ≠ i → listed.getD j true = false → (∀ e ∈ oj.after, Region.binds md e = true → e.on ≠ i) → oi.apart ops oj = true) →
      i ∈ Region.ready md ops listed → YieldsM P md ops C nn x i oi v a ∧ (nn i = true → T i (execOp a.eval oi)) →
      wpAnyM P md ops C nn x T Q fuel (listed.setIfInBounds i true) (a.put oi.dst v) → wpAnyM P md ops C nn x T Q (fuel + 1) listed a := by
  intro fuel
  induction fuel with
  | zero =>
    intro listed a _ hr hy H
    refine ⟨fun h => (by rw [h] at hr; cases hr), fun j hj => ?_⟩
    by_cases hji : j = i
    · subst hji
      unfold qOpM; simp only [hi]
      exact ⟨v, hy, H⟩
    · have := ready_mono hj hji
      rw [H.1] at this
      cases this
  | succ fuel ih =>
    intro listed a hfree hr hy H
    refine ⟨fun h => (by rw [h] at hr; cases hr), fun j hj => ?_⟩
    by_cases hji : j = i
    · subst hji
      unfold qOpM; simp only [hi]
      exact ⟨v, hy, H⟩
    · have h1 := H.2 j (ready_mono hj hji)
      obtain ⟨hjun, oj, hoj, hall⟩ := mem_ready.1 hj
      have hnot : ∀ e ∈ oj.after, Region.binds md e = true → e.on ≠ i := fun e he hb heq => by
        have h1 := hall e he hb
        have h0 := (mem_ready.1 hr).1
        rw [heq] at h1
        rcases Nat.lt_or_ge i listed.size with h' | h'
        · simp [h'] at h0 h1; rw [h0] at h1; cases h1
        · simp [Array.getElem?_eq_none h'] at h1
      have h2 := qOpM_put hoj (hfree j oj hoj hji hjun hnot) (fun cs b => hsel i oi cs b hi) (fun cs b => hsel j oj cs b hoj) hy h1
      have hfree' : ∀ k ok, ops[k]? = some ok → k ≠ i → (listed.setIfInBounds j true).getD k true = false →
          (∀ e ∈ ok.after, Region.binds md e = true → e.on ≠ i) → oi.apart ops ok = true := fun k ok hk hki hun hno => by
        refine hfree k ok hk hki ?_ hno
        by_cases hjk : j = k
        · subst hjk; exact hjun
        · rw [getD_set_ne true hjk] at hun; exact hun
      refine qOpM_mono (fun a' h3 => ih (listed.setIfInBounds j true) a' hfree' (ready_mono hr (Ne.symm hji)) h3.1 ?_) h2
      rw [Array.setIfInBounds_comm _ _ hji]
      exact h3.2
/-- the walk in the order of the text, number k first -/
def wpM (P : Program) (md : Region.Mode) (ops : Array Oper) (C : Array Bool → World → Prop) (nn : Nat → Bool) (x : Nat → Value) (T : Nat → Sem Next → Prop) (Q : Act → Prop) : List Oper → Nat → Act → Prop
  | [], _, a => Q a
  | o :: rest, k, a => ∃ v, (YieldsM P md ops C nn x k o v a ∧ (nn k = true → T k (execOp a.eval o))) ∧ wpM P md ops C nn x T Q rest (k + 1) (a.put o.dst v)
theorem wpAnyM_lex {Q : Array Bool → Act → Prop} (hs : Region.noSelect ops = true) : ∀ (l : List Oper) (k : Nat) (listed : Array Bool) (a : Act), (∀ j, l[j]? = ops[k + j]?) →
    Region.lexFrom md ops l.length k listed = true → wpM P md ops C nn x T (Q (setAll l.length k listed)) l k a → wpAnyM P md ops C nn x T Q l.length listed a
  | [], _, _, _, _, hB, h => ⟨by simpa [Region.lexFrom] using hB, h⟩
  | o :: l, k, listed, a, hl, hB, h => by
    have h0 : ops[k]? = some o := by simpa using (hl 0).symm
    simp only [List.length_cons, Region.lexFrom, Bool.and_eq_true] at hB
    obtain ⟨⟨hr, hf⟩, hB'⟩ := hB
    obtain ⟨v, hy, hK⟩ := h
    exact wpAnyM_first h0 (Region.noSelect_spec hs) l.length listed a (Region.free_spec h0 hf) (by simpa using hr) hy
      (wpAnyM_lex hs l (k + 1) _ _ (fun j => by have := hl (j + 1); simpa [Nat.add_assoc, Nat.add_comm 1 j] using this) hB' hK)
def uponN (P : Program) (Post : Value → World → Prop) : Result Next → Prop
  | .ok (.value u) w' => Post u w'
  | .ok (.enter f args) w' => Calls P f args w' (fun e w'' => ∃ u, e = .returned u ∧ Post u w'')
  | _ => False
theorem uponN_mono {P : Program} {Post Post' : Value → World → Prop} {r : Result Next} (h : ∀ v w, Post v w → Post' v w) (hr : uponN P Post r) : uponN P Post' r := by
  cases r with
  | ok n w' =>
    cases n <;> simp only [uponN] at hr ⊢
    case value u => exact h _ _ hr
    case enter f args => exact hr.mono fun e w'' ⟨u, he, hp⟩ => ⟨u, he, h _ _ hp⟩
  | halt y w' => simp only [uponN] at hr
/-- the theorem: G is what is not known ahead; val its values; Ag: two of G that do not differ in what has run; C g what holds of worlds where it is g -/
theorem wpAny_of_M {G : Type} {val : G → Nat → Value} {V : G → Prop} {Ag : Array Bool → G → G → Prop} {Cg : G → Array Bool → World → Prop} {Tg : Nat → Sem Next → Prop} {Q' : Exit → Act → World → Prop}
    (hrf : ∀ (l : Array Bool) g, Ag l g g) (htr : ∀ (l : Array Bool) g g' g'', Ag l g g' → Ag l g' g'' → Ag l g g'') (hmn : ∀ (l : Array Bool) i g g', Ag (l.setIfInBounds i true) g g' → l.getD i true = false → Ag l g g')
    (hvl : ∀ (l : Array Bool) i g g', nn i = true → l.getD i true = false → Ag (l.setIfInBounds i true) g g' → val g i = val g' i) (hag : ∀ (l : Array Bool) g g' w, Ag l g g' → Cg g l w → Cg g' l w)
    (hT : ∀ i s (l : Array Bool) w g, nn i = true → Tg i s → V g → i ∈ Region.ready md ops l → Cg g l w → uponN P (fun v w' => ∃ g', V g' ∧ Ag l g g' ∧ v = val g' i ∧ Cg g' (l.setIfInBounds i true) w') (s.run P w)) :
    ∀ (fuel : Nat) (l : Array Bool) (a : Act) (w : World) (g0 : G), V g0 → Cg g0 l w →
    (∀ g, V g → Ag l g0 g → wpAnyM P md ops (Cg g) nn (val g) Tg (fun l a => ∀ w', Cg g l w' → Q' .normal a w') fuel l a) → wpAny P md ops Q' fuel l a w
  | 0, l, a, w, g0, hg0, hC, h => ⟨(h g0 hg0 (hrf _ _)).1, (h g0 hg0 (hrf _ _)).2 w hC⟩
  | fuel + 1, l, a, w, g0, hg0, hC, h => by
    refine ⟨fun h0 => (h g0 hg0 (hrf _ _)).1 h0 w hC, fun i hi => ?_⟩
    have hun := (mem_ready.1 hi).1
    have h1 := (h g0 hg0 (hrf _ _)).2 i hi
    unfold qOpM at h1
    unfold wpOp
    split
    · rename_i ho; simp only [ho] at h1
    · rename_i o ho
      simp only [ho] at h1
      obtain ⟨v, ⟨h2, hT0⟩, h3⟩ := h1
      -- what comes behind a number of nn that has yielded val g' i
      have next : nn i = true → ∀ g', V g' → Ag l g0 g' → ∀ w', Cg g' (l.setIfInBounds i true) w' → wpAny P md ops Q' fuel (l.setIfInBounds i true) (a.put o.dst (val g' i)) w' := by
        intro hn g' hg' hA w' hC'
        refine wpAny_of_M hrf htr hmn hvl hag hT fuel _ _ w' g' hg' hC' fun g hg hA2 => ?_
        have h4 := (h g hg (htr _ _ _ _ hA (hmn _ _ _ _ hA2 hun))).2 i hi
        unfold qOpM at h4
        simp only [ho] at h4
        obtain ⟨v', ⟨h5, _⟩, h6⟩ := h4
        rcases h5 with ⟨_, e5, _⟩ | ⟨hne, _⟩
        · rw [hvl _ _ _ _ hn hun hA2, ← e5]; exact h6
        · rw [hn] at hne; cases hne
      rcases h2 with ⟨hn, hv, hw⟩ | ⟨hn, h2⟩
      · rw [if_pos hw]
        left
        have h5 := hT i _ l w g0 hn (hT0 hn) hg0 hi hC
        unfold Oper.wp
        generalize (execOp a.eval o).run P w = r at *
        cases r with
        | ok n w' =>
          cases n <;> simp only [uponN] at h5 <;> simp only [Oper.upon]
          case value u => obtain ⟨g', e1, e2, rfl, e4⟩ := h5; exact next hn g' e1 e2 _ e4
          case enter f args =>
            refine h5.mono fun e w'' ⟨u, he, g', e1, e2, e3, e4⟩ => ?_
            subst he; subst e3
            exact next hn g' e1 e2 _ e4
        | halt y w' => simp only [uponN] at h5
      · have hval : ∀ g, V g → Ag (l.setIfInBounds i true) g0 g → wpAnyM P md ops (Cg g) nn (val g) Tg (fun l a => ∀ w', Cg g l w' → Q' .normal a w') fuel (l.setIfInBounds i true) (a.put o.dst v) := by
          intro g hg hA2
          have hA := hmn _ _ _ _ hA2 hun
          have h4 := (h g hg hA).2 i hi
          unfold qOpM at h4
          simp only [ho] at h4
          obtain ⟨v', ⟨h5, _⟩, h6⟩ := h4
          rcases h5 with ⟨e, _⟩ | ⟨_, h5⟩
          · rw [hn] at e; cases e
          · have hvv : v = v' := by
              rcases h2 with ⟨hw, ha⟩ | ⟨hw, rfl, _⟩
              · rcases h5 with ⟨_, hb⟩ | ⟨hw', _⟩
                · exact uponV_val (ha l w hi hC) (hb l w hi (hag _ _ _ _ hA hC))
                · rw [hw] at hw'; cases hw'
              · rcases h5 with ⟨hw', _⟩ | ⟨_, e, _⟩
                · rw [hw] at hw'; cases hw'
                · exact e.symm
            rw [hvv]; exact h6
        rcases h2 with ⟨hw, ha⟩ | ⟨hw, rfl, hv⟩
        · rw [if_pos hw]
          left
          have h5 := ha l w hi hC
          unfold Oper.wp
          generalize (execOp a.eval o).run P w = r at *
          cases r with
          | ok n w' =>
            cases n <;> simp only [uponV] at h5 <;> simp only [Oper.upon]
            case value u => obtain ⟨e1, e2⟩ := h5; rw [e1]; exact wpAny_of_M hrf htr hmn hvl hag hT fuel _ _ w' g0 hg0 e2 hval
            case skip => obtain ⟨e1, e2⟩ := h5; rw [← e1]; exact wpAny_of_M hrf htr hmn hvl hag hT fuel _ _ w' g0 hg0 e2 hval
          | halt y w' => simp only [uponV] at h5
        · rw [if_neg (by rw [hw]; exact Bool.false_ne_true)]
          exact wpAny_of_M hrf htr hmn hvl hag hT fuel _ _ w g0 hg0 (hv l w hi hC) hval
end
section
variable {P : Program} {ops : Array Oper} {rest : List Oper} {o : Oper} {a : Act} {Q : Act → Prop} {F : (Nat → Bool) → World → Prop} {js : List Nat} {k : Nat} {nn : Nat → Bool} {md : Region.Mode} {x : Nat → Value} {T : Nat → Sem Next → Prop}
theorem wpM_nil (h : Q a) : wpM P md ops (CN F) nn x T Q [] k a := h
/-- an operation of nn -/
theorem wpM_new (hn : nn k = true) (hw : Region.wanted o (yielded ops a.tmps) = true) (hT : T k (execOp a.eval o)) (h : wpM P md ops (CN F) nn x T Q rest (k + 1) (a.put o.dst (x k))) : wpM P md ops (CN F) nn x T Q (o :: rest) k a :=
  ⟨x k, ⟨.inl ⟨hn, rfl, hw⟩, fun _ => hT⟩, h⟩
theorem wpM_read (hD : Dep F js) (hV : isV o.op = true) (hk : k ∉ js) (hn : nn k = false) (h : wpQuiet P ops (fun W => ∃ x : FXN F, W = x.W) (fun a' => wpM P md ops (CN F) nn x T Q rest (k + 1) a') [o] a) : wpM P md ops (CN F) nn x T Q (o :: rest) k a := by
  unfold wpQuiet at h
  split at h
  · rename_i hw
    obtain ⟨v, h1, h2⟩ := h
    refine ⟨v, ⟨.inr ⟨hn, .inl ⟨hw, fun listed W hl hW => ?_⟩⟩, fun e => by rw [hn] at e; cases e⟩, h2⟩
    have h3 := h1 W ⟨⟨W, _, hW⟩, rfl⟩
    unfold Oper.quietAt at h3
    cases hr : (execOp a.eval o).run P W with
    | ok n w' =>
      obtain ⟨u, rfl⟩ := isV_value hV hr
      rw [hr] at h3
      simp only [Oper.quietUpon] at h3
      simp only [uponV]
      obtain ⟨e1, e2⟩ := h3
      subst e1
      exact ⟨e2, hW.skip hD hk⟩
    | halt x w' => rw [hr] at h3; simp only [Oper.quietUpon] at h3
  · rename_i hw
    exact ⟨undef, ⟨.inr ⟨hn, .inr ⟨by simpa using hw, rfl, fun listed W hl hW => hW.skip hD hk⟩⟩, fun e => by rw [hn] at e; cases e⟩, h⟩
theorem wpM_store (hD : Dep F js) (hn : nn k = false) (hi : ops[k]? = some o) (ty : TypeId) (px py : Operand) (ho : o.op = .store ty px py) (hw : Region.wanted o (yielded ops a.tmps) = true) {p u : Value} (hx : a.eval px = p) (hy : a.eval py = u) (dep : List Nat) (hd : (dep.all fun j => o.after.any fun e => Region.binds md e && e.on == j) = true)
    (hs : ∀ f W, F f W → f k = false → (∀ j ∈ dep, f j = true) → ∃ W', (Instr.storeAt ty p u).run P W = .ok () W' ∧ F (fun i => i == k || f i) W') (h : wpM P md ops (CN F) nn x T Q rest (k + 1) (a.put o.dst undef)) : wpM P md ops (CN F) nn x T Q (o :: rest) k a := by
  refine ⟨undef, ⟨.inr ⟨hn, .inl ⟨hw, fun listed W hl hW => ?_⟩⟩, fun e => by rw [hn] at e; cases e⟩, h⟩
  have hk : listed.getD k false = false := by
    have h1 := (mem_ready.1 hl).1
    rcases Nat.lt_or_ge k listed.size with h' | h'
    · simp [h'] at h1 ⊢; exact h1
    · simp [Array.getElem?_eq_none h'] at h1 
  obtain ⟨W', h1, h2⟩ := hs _ W hW hk (fun j hj => ready_after hi (List.all_eq_true.1 hd j hj) hl)
  unfold execOp
  simp only [ho, hx, hy, Sem.run_bind, h1, Result.andThen_ok, Sem.run_pure, uponV, true_and]
  refine hD _ _ _ (fun j hj => ?_) h2
  by_cases hjk : j = k
  · subst hjk
    rw [(getD_on (mem_ready.1 hl).1).2]; simp
  · have hne : k ≠ j := Ne.symm hjk
    rw [getD_set_ne false hne]; simp [hjk]
end
/-- the region: ns are the operations whose values are not known ahead; dep what they wait for; T what they run -/
theorem wp_region_M {P : Program} {id : Nat} {Q : Exit → Act → World → Prop} {a : Act} {w : World} {l : List Oper} {G : Type} (val : G → Nat → Value) (Ag : (Nat → Bool) → G → G → Prop) (F : G → (Nat → Bool) → World → Prop) (js ns : List Nat) (dep : Nat → List Nat) (T : Nat → Sem Next → Prop) (g0 : G)
    (hD : ∀ g, Dep (F g) js) (hm : P.follows .mixedOrders = true) (hB : Region.lexB .any l.toArray = true)
    (hf : (js.all fun j => (setAll l.length 0 (Array.replicate l.length false)).getD j false) = true)
    (hnj : (ns.all fun k => js.contains k && match l.toArray[k]? with | some o => (dep k).all (fun j => o.after.any fun e => Region.binds .any e && e.on == j) | none => false) = true)
    (hAD : ∀ (φ ψ : Nat → Bool) g g', (∀ j ∈ js, φ j = ψ j) → Ag φ g g' → Ag ψ g g') (hrf : ∀ φ g, Ag φ g g) (htr : ∀ φ g g' g'', Ag φ g g' → Ag φ g' g'' → Ag φ g g'') (hmn : ∀ (φ : Nat → Bool) k g g', Ag (fun i => i == k || φ i) g g' → φ k = false → Ag φ g g')
    (hvl : ∀ (φ : Nat → Bool) k g g', k ∈ ns → φ k = false → Ag (fun i => i == k || φ i) g g' → val g k = val g' k) (hag : ∀ φ g g' W, Ag φ g g' → F g φ W → F g' φ W)
    (h0 : ∀ g, Ag (fun _ => false) g0 g) (hC : F g0 (fun _ => false) w.drew)
    (hT : ∀ k s (φ : Nat → Bool) W g, k ∈ ns → T k s → φ k = false → (∀ j ∈ dep k, φ j = true) → F g φ W → uponN P (fun v W' => ∃ g', Ag φ g g' ∧ v = val g' k ∧ F g' (fun i => i == k || φ i) W') (s.run P W))
    (h : ∀ g, wpM P .any l.toArray (CN (F g)) (fun i => ns.contains i) (val g) T (fun a' => ∀ w', F g (fun _ => true) w' → Q .normal a' w') l 0 a) : (Code.region id l.toArray true).wp P Q a w := by
  have hrep : ∀ j, (Array.replicate l.length false).getD j false = false := fun j => getD_replicate_false _ _
  simp only [Region.lexB, Bool.and_eq_true] at hB
  have un : ∀ {listed : Array Bool} {i : Nat}, listed.getD i true = false → listed.getD i false = false := fun {listed i} h1 => by
    rcases Nat.lt_or_ge i listed.size with h' | h'
    · simp [h'] at h1 ⊢; exact h1
    · simp [Array.getElem?_eq_none h'] at h1
  have set_on : ∀ {listed : Array Bool} {i : Nat}, listed.getD i true = false → ∀ j, (listed.setIfInBounds i true).getD j false = (j == i || listed.getD j false) := fun {listed i} h1 j => by
    by_cases hj : j = i
    · subst hj
      have := (getD_on h1).2
      simp [this]
    · rw [getD_set_ne false (Ne.symm hj)]; simp [hj]
  refine wp_region_any hm (wpAny_of_M (val := val) (V := fun _ => True) (Ag := fun listed => Ag (fun j => listed.getD j false)) (Cg := fun g => CN (F g)) (Tg := T) (nn := fun i => ns.contains i) ?_ ?_ ?_ ?_ ?_ ?_ _ _ _ _ g0 trivial ?_ ?_)
  · intro listed g; exact hrf _ g
  · intro listed g g' g'' h1 h2; exact htr _ _ _ _ h1 h2
  · intro listed i g g' h1 h2
    refine hmn _ i g g' (hAD _ _ _ _ (fun j _ => set_on h2 j) h1) (un h2)
  · intro listed i g g' hn h2 h1
    exact hvl _ i g g' (by simpa using hn) (un h2) (hAD _ _ _ _ (fun j _ => set_on h2 j) h1)
  · intro listed g g' W h1 h2; exact hag _ _ _ _ h1 h2
  · intro i s listed W g hn hs _ hr hW
    have hi : i ∈ ns := by simpa using hn
    have hun := (mem_ready.1 hr).1
    have hdp := List.all_eq_true.1 hnj i hi
    simp only [Bool.and_eq_true] at hdp
    have hdeps : ∀ j ∈ dep i, listed.getD j false = true := by
      obtain ⟨o, ho, _⟩ := (mem_ready.1 hr).2
      have h2 := hdp.2
      simp only [ho] at h2
      exact fun j hj => ready_after ho (List.all_eq_true.1 h2 j hj) hr
    have h3 := hT i s _ W g hi hs (un hun) hdeps hW
    refine uponN_mono (fun v W' ⟨g', e1, e2, e3⟩ => ⟨g', trivial, e1, e2, ?_⟩) h3
    exact hD g' _ _ _ (fun j _ => (set_on hun j).symm) e3
  · exact hD g0 _ _ _ (fun j _ => by have := hrep j; simpa using this.symm) hC
  · intro g _ _
    have e2 : ∀ w', CN (F g) (setAll l.length 0 (Array.replicate l.length false)) w' → F g (fun _ => true) w' := fun w' h' => hD g _ _ _ (fun j hj => by simpa using List.all_eq_true.1 hf j hj) h'
    have mono : ∀ (r : List Oper) (k : Nat) (a' : Act), wpM P .any l.toArray (CN (F g)) (fun i => ns.contains i) (val g) T (fun a' => ∀ w', F g (fun _ => true) w' → Q .normal a' w') r k a' → wpM P .any l.toArray (CN (F g)) (fun i => ns.contains i) (val g) T (fun a' => ∀ w', CN (F g) (setAll l.length 0 (Array.replicate l.length false)) w' → Q .normal a' w') r k a' := by
      intro r
      induction r with
      | nil => intro k a' h0 w' h'; exact h0 w' (e2 w' h')
      | cons o r ih => intro k a' h0; obtain ⟨v, h1, h2⟩ := h0; exact ⟨v, h1, ih _ _ h2⟩
    have := wpAnyM_lex (C := CN (F g)) (md := .any) (nn := fun i => ns.contains i) (x := val g) (T := T) (Q := fun listed a' => ∀ w', CN (F g) listed w' → Q .normal a' w') hB.1 l 0 (Array.replicate l.length false) a (by simp) (by simpa using hB.2) (mono _ _ _ (h g))
    simpa using this
end Go.Proofs.Ytmbokdnndlnjkaa
namespace Go.Proofs.Ytmbokdnndlnjkaa
open Go.RowKit L02 L13 L18 L20
structure GMod where
  t : Value
  o : Value
  s : Value
  W1 : World
def GMod.val (g : GMod) : Value := .agg #[g.t, g.o, g.s]
end Go.Proofs.Ytmbokdnndlnjkaa
namespace Go.Proofs.Ytmbokdnndlnjkaa
open Go.RowKit L02 L13 L18 L20
theorem tabL_set (S : List Sl) (k : Nat) (s : Sl) (hk : k < S.length) : (((tabL S).set (k * 3) (.int .i64 s.gen)).set (k * 3 + 1) (.bool s.used)).set (k * 3 + 2) (.int .i64 s.at_) = tabL (S.set k s) := by
  apply List.ext_getElem?
  intro i
  by_cases hi : i < S.length * 3
  · obtain ⟨q, r, hr, rfl⟩ : ∃ q r, r < 3 ∧ i = q * 3 + r := ⟨i / 3, i % 3, Nat.mod_lt _ (by omega), by omega⟩
    have hq : q < S.length := by omega
    by_cases hqk : q = k
    · subst hqk
      have h1 := tabL_get (S.set q s) q s (by simp [hq]) r hr
      rw [h1]
      have hl : (tabL S).length = S.length * 3 := tabL_len S
      have : r = 0 ∨ r = 1 ∨ r = 2 := by omega
      rcases this with rfl | rfl | rfl
      · rw [List.getElem?_set_ne (by omega), List.getElem?_set_ne (by omega), Nat.add_zero, List.getElem?_set_self (by omega)]; rfl
      · rw [List.getElem?_set_ne (by omega), List.getElem?_set_self (by simp; omega)]; rfl
      · rw [List.getElem?_set_self (by simp; omega)]; rfl
    · have hs : S[q]? = some S[q] := List.getElem?_eq_getElem hq
      have h1 := tabL_get (S.set k s) q S[q] (by rw [List.getElem?_set_ne (Ne.symm hqk)]; exact hs) r hr
      have h2 := tabL_get S q S[q] hs r hr
      rw [h1, List.getElem?_set_ne (by omega), List.getElem?_set_ne (by omega), List.getElem?_set_ne (by omega), h2]
  · rw [List.getElem?_eq_none (by simp [tabL_len]; omega), List.getElem?_eq_none (by simp [tabL_len]; omega)]
theorem OwnS.form {w : World} {B E : Nat} {v : Value} {S : List Sl} (h : OwnS w B E v S) (hn : 0 < S.length) : ∃ g n c, v = .slice (some ⟨g, 0, none⟩) n c ∧ n = S.length := by
  obtain ⟨g, cap, cur, hv, _⟩ := own_form h hn
  exact ⟨g, _, cap, hv, rfl⟩
theorem OwnS.cells {w : World} {B E g n c k : Nat} {S : List Sl} {s : Sl} (h : OwnS w B E (.slice (some ⟨g, 0, none⟩) n c) S) (hs : S[k]? = some s) :
    (∀ W, (Instr.indexAt 60 (.slice (some ⟨g, 0, none⟩) n c) (.int .i64 (k : Int))).run Try.prog W = .ok (.pointer (some ⟨g, k * 3, none⟩)) W) ∧ w.cell? ⟨g, k * 3, none⟩ = some (.int .i64 s.gen) ∧ w.cell? ⟨g, k * 3 + 1, none⟩ = some (.bool s.used) ∧ w.cell? ⟨g, k * 3 + 2, none⟩ = some (.int .i64 s.at_) := by
  have hk : k < S.length := (List.getElem?_eq_some_iff.1 hs).1
  have t0 := Rd.cell (OwnS.rd h) (tabL_get S k s hs 0 (by omega))
  have t1 := Rd.cell (OwnS.rd h) (tabL_get S k s hs 1 (by omega))
  have t2 := Rd.cell (OwnS.rd h) (tabL_get S k s hs 2 (by omega))
  refine ⟨fun W => ?_, ?_, ?_, ?_⟩
  · have := Rd.ixN (P := Try.prog) (OwnS.rd h) Try.underlying60 size_slot hk W
    simpa [cellAt] using this
  · simpa [cellAt] using t0
  · simpa [cellAt] using t1
  · simpa [cellAt] using t2
/-- a model's own slots changed, all else kept -/
theorem OwnM.slots {w W : World} {B g n c : Nat} {tv ov : Value} {m : Mo} {S : List Sl} (h : OwnM w B 46 tv ov (.slice (some ⟨g, 0, none⟩) n c) m) (hg : w.grownBy W (some g)) (hS : OwnS W B 46 (.slice (some ⟨g, 0, none⟩) n c) S) :
    OwnM W B 46 tv ov (.slice (some ⟨g, 0, none⟩) n c) ⟨m.types, m.objs, S⟩ := by
  refine ⟨OwnT.kept h.t h.s hg (by decide) (by decide), ?_, hS⟩
  obtain ⟨vs, a1, a2, a4, a5⟩ := h.o
  exact ⟨vs, a1, World.ownsRow.kept a2 hg (own_unlike a2 h.s (by decide)), fun i x l h5 h6 => World.ownsRow.kept (a4 i x l h5 h6) hg (own_unlike (a4 i x l h5 h6) h.s (by decide)), a5⟩
/-- all old blocks but one are as they were -/
def Keep (w w' : World) (row : Option Nat) : Prop := w.heap.size ≤ w'.heap.size ∧ ∀ k, k < w.heap.size → some k ≠ row → w'.heap[k]? = w.heap[k]?
theorem Keep.grown {w w' w'' : World} {row : Option Nat} (h : Keep w w' row) (hg : w'.grownBy w'' row) : Keep w w'' row := ⟨Nat.le_trans h.1 hg.size, fun k hk hr => (hg.block k (Nat.lt_of_lt_of_le hk h.1) hr).trans (h.2 k hk hr)⟩
theorem Keep.setCell {w w' : World} {row : Option Nat} (h : Keep w w' row) {p : Addr} (hp : w.heap.size ≤ p.block) (u : Value) : Keep w (w'.setCell p u) row :=
  ⟨by simpa [World.setCell] using h.1, fun k hk hr => (Below.heap_setCell w' p u k (by omega)).trans (h.2 k hk hr)⟩
theorem Bx.keep {w w' : World} {g : Nat} {t : TypeId} {cs : Array Value} {row : Option Nat} (h : Bx w g t cs) (hk : Keep w w' row) (hne : row = none ∨ row ≠ some g) : Bx w' g t cs := by
  have hl := h.lt
  unfold Bx at *
  rw [hk.2 g hl (by rcases hne with rfl | h; · simp
                    · exact fun e => h e.symm)]
  exact h
end Go.Proofs.Ytmbokdnndlnjkaa
namespace Go.Proofs.Ytmbokdnndlnjkaa
open Go.RowKit L02 L13 L18 L20
/-- the number of a slot is stored -/
theorem OwnS.put1 {w : World} {B E g n c k : Nat} {S : List Sl} {s : Sl} (h : OwnS w B E (.slice (some ⟨g, 0, none⟩) n c) S) (hs : S[k]? = some s) (a : Int) :
    OwnS (w.setCell ⟨g, k * 3 + 2, none⟩ (.int .i64 a)) B E (.slice (some ⟨g, 0, none⟩) n c) (S.set k ⟨s.gen, s.used, a⟩) ∧
      w.grownBy (w.setCell ⟨g, k * 3 + 2, none⟩ (.int .i64 a)) (some g) ∧ B ≤ g ∧ g < w.heap.size ∧ ∀ j, w.frozen? ⟨g, j, none⟩ = false := by
  have hk : k < S.length := (List.getElem?_eq_some_iff.1 hs).1
  have hn : n = S.length := by
    obtain ⟨g', cap, cur, hv, _⟩ := own_form h (by omega)
    injection hv
  subst hn
  have h3 := World.ownsRow.stored h (k * 3 + 2) (.int .i64 a)
  have hl := h.lt g rfl
  have hsame : ∀ i : Nat, i < 3 → ∀ u, (slC s)[i]? = some u → (tabL S).set (k * 3 + i) u = tabL S := by
    intro i hi u hu
    have t0 := tabL_get S k s hs i hi
    rw [hu] at t0
    apply List.ext_getElem?
    intro j
    by_cases hj : j = k * 3 + i
    · subst hj
      rw [List.getElem?_set_self (List.getElem?_eq_some_iff.1 t0).1, t0]
    · rw [List.getElem?_set_ne (Ne.symm hj)]
  have h0 := hsame 0 (by omega) (.int .i64 s.gen) rfl
  have h1 := hsame 1 (by omega) (.bool s.used) rfl
  rw [Nat.add_zero] at h0
  refine ⟨?_, h3.2, hl.1, hl.2, fun j => h.frozenAt j⟩
  unfold OwnS
  rw [← tabL_set S k ⟨s.gen, s.used, a⟩ hk, List.length_set]
  show World.ownsRow _ _ _ _ _ _ ((((tabL S).set (k * 3) (.int .i64 s.gen)).set (k * 3 + 1) (.bool s.used)).set (k * 3 + 2) (.int .i64 a))
  rw [h0, h1]
  exact h3.1
end Go.Proofs.Ytmbokdnndlnjkaa
namespace Go.Proofs.Ytmbokdnndlnjkaa
open Go.RowKit L01 L02 L05 L06 L07 L13 L14 L15 L16 L18 L19
/-- the heap is one free extent -/
def whole (L : List Hb) : Bool := match L with | [b] => decide (b.kind = 2) | _ => false
end Go.Proofs.Ytmbokdnndlnjkaa
namespace Go.Proofs.Ytmbokdnndlnjkaa
open Go Go.RowKit
section
variable {P : Program} {ops : Array Oper} {w : World}
theorem wpStill_of_quiet {Q : Act → Prop} : ∀ (l : List Oper) (a : Act), wpQuiet P ops (fun W => W = w) Q l a → wpStill P ops w Q l a
  | [], a, h => h
  | o :: l, a, h => by
    unfold wpQuiet at h
    unfold wpStill
    by_cases hw : Region.wanted o (yielded ops a.tmps) = true
    · rw [if_pos hw] at h ⊢
      obtain ⟨v, h1, h2⟩ := h
      have h3 := h1 w rfl
      have h4 := wpStill_of_quiet l _ h2
      unfold Oper.quietAt at h3
      unfold Oper.still
      cases hr : (execOp a.eval o).run P w with
      | ok n w' =>
        rw [hr] at h3
        cases n with
        | value u => obtain ⟨e1, e2⟩ := h3; subst e2; exact ⟨e1, h4⟩
        | skip => obtain ⟨e1, e2⟩ := h3; subst e2; exact ⟨e1, h4⟩
        | enter f args => obtain ⟨e1, e2⟩ := h3; exact ⟨e1, v, e2, h4⟩
        | _ => exact absurd h3 id
      | halt x w' => rw [hr] at h3; exact absurd h3 id
    · rw [if_neg hw] at h ⊢
      exact wpStill_of_quiet l _ h
theorem wp_region_qtail {id : Nat} {Q : Exit → Act → World → Prop} {a : Act} {l : List Oper} (n : Nat) (hm : P.follows .mixedOrders = true) (hB : Region.lexTailB .any l.toArray n = true)
    (h : wpQuiet P l.toArray (fun W => W = w.drew) (fun a' => wpList P l.toArray Q (l.drop n) a' w.drew) (l.take n) a) : (Code.region id l.toArray true).wp P Q a w :=
  wp_region_still_tail n hm hB (wpStill_of_quiet _ _ h)
end
end Go.Proofs.Ytmbokdnndlnjkaa
namespace Go.Proofs.Ytmbokdnndlnjkaa
open Go.RowKit L01 L02 L05 L06 L07 L13 L14 L15 L18 L19 L20
end Go.Proofs.Ytmbokdnndlnjkaa
namespace Go.Proofs.Ytmbokdnndlnjkaa
open Go.RowKit L01 L02 L18
end Go.Proofs.Ytmbokdnndlnjkaa
namespace Go.Proofs.Ytmbokdnndlnjkaa
open Go.RowKit L01 L02 L05 L06 L07 L13 L14 L15 L18 L19 L20
theorem find_hd {l : List UInt64} {k a nn q : Nat} {sg : Int} {b : Hb} {t : List UInt8} (h : Hd l k a nn q sg b t) : find l a = b ∧ findErr l a = 0 := by
  obtain ⟨hbL, _⟩ := objs_mem.1 (List.mem_of_getElem? h.ho)
  obtain ⟨j, hj⟩ := List.getElem?_of_mem hbL
  have hp := List.pairwise_iff_getElem.1 (chain_apart (chain_iff.1 (parsed_ok.1 (allErr_ok h.rt.al).2).1)).2
  have hf : findB (allL l) a = some b := findB_first hj h.hat (fun i c hi hc e => by
    obtain ⟨i1, i2⟩ := List.getElem?_eq_some_iff.1 hc
    obtain ⟨j1, j2⟩ := List.getElem?_eq_some_iff.1 hj
    have := hp i j i1 j1 hi
    rw [i2, j2, h.hat, e] at this
    obtain ⟨x, _, _, hs, h4, _⟩ := all_mem h.rt.al (List.mem_of_getElem? hc)
    have hz := szN_ge hs
    have : c.size = szN l x := by rw [h4]; exact stand_size hs
    omega)
  have he : findErr l a = 0 := by rw [findErr, if_pos h.rt.al, hf]; rfl
  exact ⟨by rw [find, if_pos he, hf]; rfl, he⟩
set_option maxRecDepth 100000 in
set_option maxHeartbeats 2000000 in
theorem find24_any (v : Value) (l : List UInt64) (sl g n : Int) (p : Int) (kd : UInt8) (r : Int) (hp : p = kiAt l sl g n) (hk : kd = kiK l sl g n) (hr : r = kiErr l sl g n) (w : World) (h : Words w v l) :
    Calls Try.prog 51 #[v, .agg #[.int .i64 sl, .int .i64 g], .int .i64 n] w fun e w' => e = .returned (.tuple #[.int .i64 p, .int .u8 kd.toNat, .int .i64 r]) ∧ Below w.heap.size w w' := by
  have B : Below w.heap.size w w := Below.refl _ _
  have H := Lib.hid h
  obtain ⟨c, hc⟩ : ∃ c, c = chk19 l := ⟨_, rfl⟩
  have CK := Lib.hid (fun w h => Check19_any v l c hc w h)
  have hno : r ≠ 0 → p = 0 ∧ kd = 0 := fun h0 => ⟨by rw [hp, kiAt, if_neg (by rw [← hr]; exact h0)], by rw [hk, kiK, if_neg (by rw [← hr]; exact h0)]⟩
  by_cases h0 : c = 0
  case neg =>
    have haski : askI l sl g = c := by rw [askI, if_neg (by rw [← hc]; exact h0), hc]
    have hra : r = c := by rw [hr, kiErr, haski, if_neg h0]
    obtain ⟨rfl, rfl⟩ := hno (by rw [hra]; exact h0)
    subst hra
    have n1 : (r != 0) = true := by rw [bne_iff_ne]; exact h0
    clear hp hk hr hno h hc h0 haski
    go_enter Try.func51, Try.ntmps51
    go_upto_region 1 with (fail)
    refine wp_gen (fun Wv => Bx Wv (w.heap.size) (35) (#[.int .i64 sl, .int .i64 g]) ∧ Below w.heap.size w Wv) ⟨((Bx.at_ (by simp))), ((Below.refl _ w).alloc (by simp <;> omega) _)⟩ ?_
    rintro wa1 ⟨g1, b⟩
    replace B := B.trans (b.mono B.size); clear b
    have c_g1 := g1.cell; have f_g1 := g1.free; have a_g1 := fun o => (g1.alloc o).cell; have d_g1 := fun o o2 => ((g1.alloc o).alloc o2).cell; have e_g1 := fun o => (g1.alloc o).free
    go_wp2_with fail
    refine (CK.out _ (H.out.below B)).mono ?_
    rintro e wa2 ⟨rfl, b⟩
    try clear c_g1 f_g1 a_g1 d_g1 e_g1
    replace g1 := g1.below b; have c_g1 := g1.cell; have f_g1 := g1.free; have a_g1 := fun o => (g1.alloc o).cell; have d_g1 := fun o o2 => ((g1.alloc o).alloc o2).cell; have e_g1 := fun o => (g1.alloc o).free; replace B := B.trans (b.mono B.size); clear b
    go_wp2
    go_ret3
    exact ⟨rfl, B⟩
  case pos =>
    subst h0
    obtain ⟨x, hx⟩ : ∃ x, x = res l sl g := ⟨_, rfl⟩
    obtain ⟨d, hd⟩ : ∃ d, d = resErr l sl g := ⟨_, rfl⟩
    have RT := Lib.hid (fun w h => Resolve_any v l sl g x d hx hd w h)
    have ha : askI l sl g = d := by rw [askI, if_pos hc.symm, hd]
    by_cases h1 : d = 0
    case neg =>
      have hra : r = d := by rw [hr, kiErr, ha, if_neg h1]
      obtain ⟨rfl, rfl⟩ := hno (by rw [hra]; exact h1)
      subst hra
      have n1 : (r != 0) = true := by rw [bne_iff_ne]; exact h1
      clear hp hk hr hno h hc hx hd ha h1
      go_enter Try.func51, Try.ntmps51
      go_upto_region 1 with (fail)
      refine wp_gen (fun Wv => Bx Wv (w.heap.size) (35) (#[.int .i64 sl, .int .i64 g]) ∧ Below w.heap.size w Wv) ⟨((Bx.at_ (by simp))), ((Below.refl _ w).alloc (by simp <;> omega) _)⟩ ?_
      rintro wa1 ⟨g1, b⟩
      replace B := B.trans (b.mono B.size); clear b
      have c_g1 := g1.cell; have f_g1 := g1.free; have a_g1 := fun o => (g1.alloc o).cell; have d_g1 := fun o o2 => ((g1.alloc o).alloc o2).cell; have e_g1 := fun o => (g1.alloc o).free
      go_wp2_with fail
      refine (CK.out _ (H.out.below B)).mono ?_
      rintro e wa2 ⟨rfl, b⟩
      try clear c_g1 f_g1 a_g1 d_g1 e_g1
      replace g1 := g1.below b; have c_g1 := g1.cell; have f_g1 := g1.free; have a_g1 := fun o => (g1.alloc o).cell; have d_g1 := fun o o2 => ((g1.alloc o).alloc o2).cell; have e_g1 := fun o => (g1.alloc o).free; replace B := B.trans (b.mono B.size); clear b
      go_wp2_with fail
      refine (RT.out _ (H.out.below B)).mono ?_
      rintro e wa3 ⟨rfl, b⟩
      try clear c_g1 f_g1 a_g1 d_g1 e_g1
      replace g1 := g1.below b; have c_g1 := g1.cell; have f_g1 := g1.free; have a_g1 := fun o => (g1.alloc o).cell; have d_g1 := fun o o2 => ((g1.alloc o).alloc o2).cell; have e_g1 := fun o => (g1.alloc o).free; replace B := B.trans (b.mono B.size); clear b
      go_wp2
      go_ret3
      exact ⟨rfl, B⟩
    case pos =>
      subst h1
      obtain ⟨k, a, nn, q, b, t, rfl, hh⟩ := Hd.of ha
      obtain ⟨f1, f2⟩ := find_hd hh
      have hxa : x = (a : Int) := by rw [hx]; exact hh.hres
      have rt := hh.rt
      have FT := Lib.hid (fun w h => Find_any v l a b 0 f1.symm f2.symm w h)
      obtain ⟨sw, hsw⟩ : ∃ x, x = sW l := ⟨_, rfl⟩
      obtain ⟨st, hst⟩ : ∃ x, x = sT l := ⟨_, rfl⟩
      obtain ⟨i0, hi0⟩ : ∃ x, x = is0 l := ⟨_, rfl⟩
      obtain ⟨i1, hi1⟩ : ∃ x, x = is1 l := ⟨_, rfl⟩
      obtain ⟨T, hT⟩ : ∃ T, T = T19 l := ⟨_, rfl⟩
      have T3 := Lib.hid (fun w h => TRead_any v l sw st i0 i1 0 hsw hst hi0 hi1 rt.tw.symm w h)
      have KT := Lib.hid (fun w h => KTable_any v l st T 0 (by rw [hT, hst]; rfl) (by rw [hst]; exact rt.ty.symm) w h)
      have hTq : T[q]? = some t := by rw [hT]; exact hh.hT
      have hqT := (List.getElem?_eq_some_iff.1 hTq).1
      obtain ⟨nf, hnf⟩ : ∃ N, N = t.length := ⟨_, rfl⟩
      have hn8 : nf ≤ 8 := by rw [hnf]; exact hh.hn8
      have ha2 := hh.ha2
      have hbq := hh.hty
      have hki : kiErr l k g n = if 0 ≤ n ∧ n < (nf : Int) then 0 else 2 := by rw [kiErr, if_pos ha, hh.kinds, hnf]
      have hki2 : 0 ≤ n ∧ n < (nf : Int) → p = (a : Int) + 2 + n ∧ kd = t.getD n.toNat 0 := fun hn => by
        have e0 : kiErr l k g n = 0 := by rw [hki, if_pos hn]
        exact ⟨by rw [hp, kiAt, if_pos e0, hh.hres], by rw [hk, kiK, if_pos e0, hh.kinds]⟩
      rw [← hr] at hki
      have HKI := Lib.hid hki; have HKI2 := Lib.hid hki2; have HNO := Lib.hid hno; have HTQ := Lib.hid hTq; have HNF := Lib.hid hnf; have HQT := Lib.hid hqT
      subst hxa
      obtain ⟨bat, bsz, bkd, bty, bmk, bnx⟩ := b
      dsimp only at hbq
      subst hbq
      clear hp hk hr hno h hc hx hd ha hh f1 f2 rt hsw hst hi0 hi1 hT hTq hqT hnf hki hki2
      go_enter Try.func51, Try.ntmps51
      go_upto_region 1 with (fail)
      refine wp_gen (fun Wv => Bx Wv (w.heap.size) (35) (#[.int .i64 k, .int .i64 g]) ∧ Below w.heap.size w Wv) ⟨((Bx.at_ (by simp))), ((Below.refl _ w).alloc (by simp <;> omega) _)⟩ ?_
      rintro wa1 ⟨g1, b⟩
      replace B := B.trans (b.mono B.size); clear b
      have c_g1 := g1.cell; have f_g1 := g1.free; have a_g1 := fun o => (g1.alloc o).cell; have d_g1 := fun o o2 => ((g1.alloc o).alloc o2).cell; have e_g1 := fun o => (g1.alloc o).free
      go_wp2_with fail
      refine (CK.out _ (H.out.below B)).mono ?_
      rintro e wa2 ⟨rfl, b⟩
      try clear c_g1 f_g1 a_g1 d_g1 e_g1
      replace g1 := g1.below b; have c_g1 := g1.cell; have f_g1 := g1.free; have a_g1 := fun o => (g1.alloc o).cell; have d_g1 := fun o o2 => ((g1.alloc o).alloc o2).cell; have e_g1 := fun o => (g1.alloc o).free; replace B := B.trans (b.mono B.size); clear b
      go_wp2_with fail
      refine (RT.out _ (H.out.below B)).mono ?_
      rintro e wa3 ⟨rfl, b⟩
      try clear c_g1 f_g1 a_g1 d_g1 e_g1
      replace g1 := g1.below b; have c_g1 := g1.cell; have f_g1 := g1.free; have a_g1 := fun o => (g1.alloc o).cell; have d_g1 := fun o o2 => ((g1.alloc o).alloc o2).cell; have e_g1 := fun o => (g1.alloc o).free; replace B := B.trans (b.mono B.size); clear b
      clear c_g1 f_g1 a_g1 d_g1 e_g1
      clear g1
      go_wp2_with fail
      refine (FT.out _ (H.out.below B)).mono ?_
      rintro e wa4 ⟨rfl, b⟩
      replace B := B.trans (b.mono B.size); clear b
      go_upto_region 8 with (fail)
      refine wp_gen (fun Wv => Bx Wv (wa4.heap.size) (54) (#[.int .i64 bat, .int .i64 bsz, .int .i64 bkd, .int .i64 q, .bool bmk, .int .u64 bnx.toNat]) ∧ Below wa4.heap.size wa4 Wv) ⟨((Bx.at_ (by simp))), ((Below.refl _ wa4).alloc (by simp <;> omega) _)⟩ ?_
      rintro wa5 ⟨g2, b⟩
      replace B := B.trans (b.mono B.size); clear b
      have c_g2 := g2.cell; have f_g2 := g2.free; have a_g2 := fun o => (g2.alloc o).cell; have d_g2 := fun o o2 => ((g2.alloc o).alloc o2).cell; have e_g2 := fun o => (g2.alloc o).free
      go_wp2_with fail
      refine (T3.out _ (H.out.below B)).mono ?_
      rintro e wa6 ⟨rfl, b⟩
      try clear c_g2 f_g2 a_g2 d_g2 e_g2
      replace g2 := g2.below b; have c_g2 := g2.cell; have f_g2 := g2.free; have a_g2 := fun o => (g2.alloc o).cell; have d_g2 := fun o o2 => ((g2.alloc o).alloc o2).cell; have e_g2 := fun o => (g2.alloc o).free; replace B := B.trans (b.mono B.size); clear b
      go_upto_region 11 with (fail)
      refine wp_gen (fun Wv => Bx Wv (wa6.heap.size) (66) (#[.int .i64 sw, .int .i64 st]) ∧ Below wa6.heap.size wa6 Wv) ⟨(((Bx.at_ (by simp)).alloc _)), (((Below.refl _ wa6).alloc (by simp <;> omega) _).alloc (by simp <;> omega) _)⟩ ?_
      rintro wa7 ⟨g3, b⟩
      try clear c_g2 f_g2 a_g2 d_g2 e_g2
      replace g2 := g2.below b; have c_g2 := g2.cell; have f_g2 := g2.free; have a_g2 := fun o => (g2.alloc o).cell; have d_g2 := fun o o2 => ((g2.alloc o).alloc o2).cell; have e_g2 := fun o => (g2.alloc o).free; replace B := B.trans (b.mono B.size); clear b
      have c_g3 := g3.cell; have f_g3 := g3.free; have a_g3 := fun o => (g3.alloc o).cell; have d_g3 := fun o o2 => ((g3.alloc o).alloc o2).cell; have e_g3 := fun o => (g3.alloc o).free
      go_wp2_with fail
      refine (KT.out _ (H.out.below B)).mono ?_
      rintro e wa8 ⟨xt, rfl, ot, b⟩
      try clear c_g2 f_g2 a_g2 d_g2 e_g2
      replace g2 := g2.below b; have c_g2 := g2.cell; have f_g2 := g2.free; have a_g2 := fun o => (g2.alloc o).cell; have d_g2 := fun o o2 => ((g2.alloc o).alloc o2).cell; have e_g2 := fun o => (g2.alloc o).free; try clear c_g3 f_g3 a_g3 d_g3 e_g3
      replace g3 := g3.below b; have c_g3 := g3.cell; have f_g3 := g3.free; have a_g3 := fun o => (g3.alloc o).cell; have d_g3 := fun o o2 => ((g3.alloc o).alloc o2).cell; have e_g3 := fun o => (g3.alloc o).free; replace B := B.trans (b.mono B.size); clear b
      clear c_g3 f_g3 a_g3 d_g3 e_g3
      clear g3
      obtain ⟨ad, yt, t2, iy, m3, ht2, hby⟩ := ot.rd.at_ HQT.out
      obtain rfl : t2 = t := by have := ht2.out; rw [HTQ.out] at this; injection this with e; exact e.symm
      have lx := Rd.len hby.out Try.underlying28
      rw [← HNF.out] at lx
      have HBY := Lib.hid hby.out
      clear ht2 hby ot f_g2 a_g2 d_g2 e_g2
      by_cases hn : 0 ≤ n ∧ n < (nf : Int)
      · obtain ⟨hn0, hn1⟩ := hn
        obtain ⟨e1, e2⟩ := HKI2.out ⟨hn0, hn1⟩
        have hr0 : r = 0 := by rw [HKI.out, if_pos ⟨hn0, hn1⟩]
        obtain ⟨i, rfl⟩ := Int.eq_ofNat_of_zero_le hn0
        obtain ⟨bd, kk, ib, m4, hkk⟩ := HBY.out.at_ (P := Try.prog) Try.underlying28 one_u8 (k := i) (by rw [← HNF.out]; omega)
        have hkd : kd = kk := by rw [e2, Int.toNat_natCast, List.getD_eq_getElem?_getD, hkk.out]; rfl
        subst hr0; subst hkd; subst e1
        have g0 : decide ((i : Int) < 0) = false := decide_eq_false (by omega)
        have g4 : decide ((nf : Int) ≤ (i : Int)) = false := decide_eq_false (by omega)
        have g4' : decide (nf ≤ i) = false := decide_eq_false (by omega)
        have w1 : IntKind.i64.wrap ((a : Int) + 2) = (a : Int) + 2 := IntWalk.i64_in _ (by omega)
        have w2 : IntKind.i64.wrap ((a : Int) + 2 + (i : Int)) = (a : Int) + 2 + (i : Int) := IntWalk.i64_in _ (by omega)
        clear e2 hkk hn0 hn1
        go_wp2
        go_big_quiet (fail)
        go_wp2
        go_ret3
        exact ⟨rfl, below_drewN B _⟩
      · have hr0 : r = 2 := by rw [HKI.out, if_neg hn]
        obtain ⟨rfl, rfl⟩ := HNO.out (by rw [hr0]; decide)
        subst hr0
        by_cases hneg : n < 0
        · have g0 : decide (n < 0) = true := decide_eq_true hneg
          clear hn hneg
          go_wp2
          go_ret3
          exact ⟨rfl, B⟩
        · have g0 : decide (n < 0) = false := decide_eq_false hneg
          have g4 : decide ((nf : Int) ≤ n) = true := decide_eq_true (by omega)
          clear hn hneg
          go_wp2
          go_ret3
          exact ⟨rfl, B⟩
end Go.Proofs.Ytmbokdnndlnjkaa
namespace Go.Proofs.Ytmbokdnndlnjkaa
open Go.RowKit L01 L02 L05 L06 L07 L13 L14 L15 L18 L19 L20
end Go.Proofs.Ytmbokdnndlnjkaa
namespace Go.Proofs.Ytmbokdnndlnjkaa
open Go.RowKit
/-- a pointer to a handle, or none -/
def PtrH (w : World) (v : Value) (tt : Option (Int × Int)) : Prop := match tt with
  | none => v = .pointer none
  | some t => ∃ g, v = .pointer (some ⟨g, 0, none⟩) ∧ Bx w g 35 #[.int .i64 t.1, .int .i64 t.2]
theorem PtrH.below {w w' : World} {v : Value} {tt : Option (Int × Int)} (h : PtrH w v tt) (hb : Below w.heap.size w w') : PtrH w' v tt := by
  cases tt with
  | none => exact h
  | some t => obtain ⟨g, h1, h2⟩ := h; exact ⟨g, h1, h2.below hb⟩
end Go.Proofs.Ytmbokdnndlnjkaa
