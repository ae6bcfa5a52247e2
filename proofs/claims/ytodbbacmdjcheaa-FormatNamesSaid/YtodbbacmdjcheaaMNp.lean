/- Contracts of the functions that the laws 'N' reach, part 16. No condition. -/
import Derived.Test.YtodbbacmdjcheaaMNo
set_option linter.unusedVariables false
set_option linter.unusedSimpArgs false
namespace Go.Proofs.Ytodbbacmdjcheaa
open Go.RowKit L02 L13 L18 L20
theorem size_obj : (Try.prog.info? 109).map (·.size) = some 2 := by kernel_rfl
/-- the cells of objects, whose fields are the slices vs -/
def obC : List Ob → List Value → List Value
  | o :: L, x :: vs => i64 o.ty :: x :: obC L vs
  | _, _ => []
theorem obC_len : ∀ {L : List Ob} {vs : List Value}, vs.length = L.length → (obC L vs).length = L.length * 2
  | [], _, _ => rfl
  | o :: L, [], h => by simp at h
  | o :: L, x :: vs, h => by rw [obC, List.length_cons, List.length_cons, obC_len (by simpa using h), List.length_cons]; omega
theorem obC_get : ∀ {L : List Ob} {vs : List Value} {k : Nat} {o : Ob} {x : Value}, L[k]? = some o → vs[k]? = some x → (obC L vs)[k * 2]? = some (i64 o.ty) ∧ (obC L vs)[k * 2 + 1]? = some x
  | [], _, _, _, _, h, _ => by simp at h
  | o :: L, [], _, _, _, _, h => by simp at h
  | o :: L, x :: vs, 0, o', x', h, h' => by simp at h h'; subst h; subst h'; simp [obC]
  | o :: L, x :: vs, k + 1, o', x', h, h' => by
    have := obC_get (L := L) (vs := vs) (k := k) (by simpa using h) (by simpa using h')
    rw [obC, show (k + 1) * 2 = k * 2 + 1 + 1 by omega, show k * 2 + 1 + 1 + 1 = (k * 2 + 1) + 1 + 1 by omega]
    simpa using this
theorem obC_snoc : ∀ {L : List Ob} {vs : List Value} {o : Ob} {x : Value}, vs.length = L.length → obC (L ++ [o]) (vs ++ [x]) = obC L vs ++ [i64 o.ty, x]
  | [], [], _, _, _ => rfl
  | [], x :: vs, _, _, h => by simp at h
  | o :: L, [], _, _, h => by simp at h
  | o :: L, x :: vs, o', x', h => by
    rw [List.cons_append, List.cons_append, obC, obC_snoc (by simpa using h), obC]; rfl
/-- A slice of objects. -/
def Objs (w : World) (v : Value) (L : List Ob) : Prop := ∃ vs : List Value, vs.length = L.length ∧ Rd w 2 v L.length (obC L vs) ∧ ∀ (i : Nat) x o, vs[i]? = some x → L[i]? = some o → Words w x o.fs
/-- .. of the call's own, their fields too, which lie apart -/
def OwnO (w : World) (base : Nat) (v : Value) (L : List Ob) : Prop := ∃ vs : List Value, vs.length = L.length ∧ w.ownsRow base 109 2 v L.length (obC L vs) ∧ (∀ (i : Nat) x o, vs[i]? = some x → L[i]? = some o → OwnW w base 64 x o.fs) ∧
  ∀ (i j : Nat) x y, i ≠ j → vs[i]? = some x → vs[j]? = some y → x.ownBlock = none ∨ x.ownBlock ≠ y.ownBlock
theorem OwnO.rd {w : World} {base : Nat} {v : Value} {L : List Ob} (h : OwnO w base v L) : Objs w v L := by
  obtain ⟨vs, h1, h2, h4, _⟩ := h; exact ⟨vs, h1, Rd.of_own h2, fun i x l h5 h6 => (h4 i x l h5 h6).rd⟩
theorem Objs.below {w w' : World} {v : Value} {L : List Ob} (h : Objs w v L) (hb : Below w.heap.size w w') : Objs w' v L := by
  obtain ⟨vs, h1, h2, h3⟩ := h; exact ⟨vs, h1, h2.below hb, fun i x l h4 h5 => (h3 i x l h4 h5).below hb⟩
theorem OwnO.below {w w' : World} {base : Nat} {v : Value} {L : List Ob} (h : OwnO w base v L) (hb : Below w.heap.size w w') : OwnO w' base v L := by
  obtain ⟨vs, h1, h2, h4, h5⟩ := h; exact ⟨vs, h1, own_below h2 hb, fun i x l h5 h6 => (h4 i x l h5 h6).below hb, h5⟩
theorem OwnO.mono {w : World} {base base' : Nat} {v : Value} {L : List Ob} (h : OwnO w base v L) (hb : base' ≤ base) : OwnO w base' v L := by
  obtain ⟨vs, h1, h2, h4, h5⟩ := h; exact ⟨vs, h1, own_mono h2 hb, fun i x l h5 h6 => own_mono (h4 i x l h5 h6) hb, h5⟩
theorem OwnT.mono {w : World} {base base' : Nat} {v : Value} {L : List (List UInt8)} (h : OwnT w base v L) (hb : base' ≤ base) : OwnT w base' v L := by
  obtain ⟨vs, h1, h2, h4⟩ := h; exact ⟨vs, h1, own_mono h2 hb, fun i x l h5 h6 => own_mono (h4 i x l h5 h6) hb⟩
theorem OwnO.nil (w : World) (base : Nat) : OwnO w base (.slice none 0 0) [] := ⟨[], rfl, World.ownsRow_nil w base _ 2, fun i x l h => by simp at h, fun i j x y _ h => by simp at h⟩
theorem Objs.nil (w : World) : Objs w (.slice none 0 0) [] := (OwnO.nil w 0).rd
theorem Typs.nil (w : World) : Typs w (.slice none 0 0) [] := (OwnT.nil w 0).rd
theorem Slots.nil (w : World) : Slots w (.slice none 0 0) [] := Rd.nil w 3
theorem Objs.len {w : World} {v : Value} {L : List Ob} (h : Objs w v L) : ∀ ty W, (Builtin.len_ #[47] ty #[v]).run Try.prog W = .ok (.int .i64 (L.length : Int)) W := by
  obtain ⟨vs, h1, h2, h3⟩ := h; exact Rd.len h2 Try.underlying47
theorem Objs.len_le {w : World} {v : Value} {L : List Ob} (h : Objs w v L) : L.length ≤ 9223372036854775807 := by
  obtain ⟨vs, h1, h2, h3⟩ := h; exact Rd.len_le h2
theorem Slots.len {w : World} {v : Value} {L : List Sl} (h : Slots w v L) : ∀ ty W, (Builtin.len_ #[48] ty #[v]).run Try.prog W = .ok (.int .i64 (L.length : Int)) W := Rd.len h Try.underlying48
theorem Slots.len_le {w : World} {v : Value} {L : List Sl} (h : Slots w v L) : L.length ≤ 9223372036854775807 := Rd.len_le h
theorem Objs.at_ {w : World} {v : Value} {L : List Ob} (h : Objs w v L) {k : Nat} (hk : k < L.length) :
    ∃ b q x o, (∀ W, (Instr.indexAt 47 v (.int .i64 (k : Int))).run Try.prog W = .ok (.pointer (some ⟨b, q, none⟩)) W) ∧ w.cell? ⟨b, q, none⟩ = some (.int .i64 o.ty) ∧ w.cell? ⟨b, q + 1, none⟩ = some x ∧ Hid (L[k]? = some o) ∧ Hid (Words w x o.fs) ∧ b < w.heap.size := by
  obtain ⟨vs, h1, h2, h3⟩ := h
  have hv : vs[k]? = some vs[k] := List.getElem?_eq_getElem (by omega)
  have hl : L[k]? = some L[k] := List.getElem?_eq_getElem hk
  have hix := fun W => Rd.ixN h2 Try.underlying47 size_obj hk W
  obtain ⟨b, q, c, rfl, hb, hc, hcell⟩ := Rd.form h2 (by omega)
  obtain ⟨c0, c1⟩ := obC_get hl hv
  exact ⟨b, q + k * 2, vs[k], L[k], fun W => hix W, hcell _ _ c0, hcell _ _ c1, Lib.hid hl, Lib.hid (h3 k _ _ hv hl), hb⟩
theorem Words.oneCell {w : World} {x : Value} {l : List UInt64} (h : Words w x l) : x.oneCell' = true := by
  obtain ⟨A, c, rfl, _⟩ := h; rfl
theorem Typs.oneCell {w : World} {x : Value} {l : List (List UInt8)} (h : Typs w x l) : x.oneCell' = true := by
  obtain ⟨_, _, ⟨A, c, rfl, _⟩, _⟩ := h; rfl
theorem Objs.oneCell {w : World} {x : Value} {l : List Ob} (h : Objs w x l) : x.oneCell' = true := by
  obtain ⟨_, _, ⟨A, c, rfl, _⟩, _⟩ := h; rfl
theorem Slots.oneCell {w : World} {x : Value} {l : List Sl} (h : Slots w x l) : x.oneCell' = true := by
  obtain ⟨A, c, rfl, _⟩ := h; rfl
/-- A model: three slices. -/
structure Mod (w : World) (tv ov sv : Value) (m : Mo) : Prop where
  t : Typs w tv m.types
  o : Objs w ov m.objs
  s : Slots w sv m.slots
structure OwnM (w : World) (base E : Nat) (tv ov sv : Value) (m : Mo) : Prop where
  t : OwnT w base tv m.types
  o : OwnO w base ov m.objs
  s : OwnS w base E sv m.slots
theorem Mod.below {w w' : World} {tv ov sv : Value} {m : Mo} (h : Mod w tv ov sv m) (hb : Below w.heap.size w w') : Mod w' tv ov sv m := ⟨h.t.below hb, h.o.below hb, h.s.below hb⟩
theorem OwnM.below {w w' : World} {base E : Nat} {tv ov sv : Value} {m : Mo} (h : OwnM w base E tv ov sv m) (hb : Below w.heap.size w w') : OwnM w' base E tv ov sv m := ⟨h.t.below hb, h.o.below hb, h.s.below hb⟩
theorem OwnM.rd {w : World} {base E : Nat} {tv ov sv : Value} {m : Mo} (h : OwnM w base E tv ov sv m) : Mod w tv ov sv m := ⟨h.t.rd, h.o.rd, h.s.rd⟩
theorem OwnM.mono {w : World} {base base' E : Nat} {tv ov sv : Value} {m : Mo} (h : OwnM w base E tv ov sv m) (hb : base' ≤ base) : OwnM w base' E tv ov sv m := ⟨h.t.mono hb, h.o.mono hb, own_mono h.s hb⟩
theorem Mod.nil (w : World) : Mod w (.slice none 0 0) (.slice none 0 0) (.slice none 0 0) .nil := ⟨Typs.nil w, Objs.nil w, Slots.nil w⟩
end Go.Proofs.Ytodbbacmdjcheaa
namespace Go.Proofs.Ytodbbacmdjcheaa
open Go.RowKit L02 L13 L18 L20
end Go.Proofs.Ytodbbacmdjcheaa
namespace Go.Proofs.Ytodbbacmdjcheaa
open Go.RowKit L02 L13 L18 L20
end Go.Proofs.Ytodbbacmdjcheaa
namespace Go.Proofs.Ytodbbacmdjcheaa
open Go.RowKit L02 L13 L18 L20
end Go.Proofs.Ytodbbacmdjcheaa
namespace Go.Proofs.Ytodbbacmdjcheaa
open Go.RowKit L02 L13 L18 L20
end Go.Proofs.Ytodbbacmdjcheaa
namespace Go.Proofs.Ytodbbacmdjcheaa
open Go.RowKit L02 L13 L18 L20
end Go.Proofs.Ytodbbacmdjcheaa
namespace Go.Proofs.Ytodbbacmdjcheaa
open Go Go.RowKit
section
variable {P : Program} {ops : Array Oper} {md : Region.Mode}
def uponV (Post : World → Prop) (v : Value) : Result Next → Prop
  | .ok (.value u) w' => u = v ∧ Post w'
  | .ok .skip w' => v = undef ∧ Post w'
  | _ => False
def YieldsV (P : Program) (md : Region.Mode) (ops : Array Oper) (C : Array Bool → World → Prop) (i : Nat) (o : Oper) (v : Value) (a : Act) : Prop :=
  (Region.wanted o (yielded ops a.tmps) = true ∧ ∀ listed w, i ∈ Region.ready md ops listed → C listed w → uponV (C (listed.setIfInBounds i true)) v ((execOp a.eval o).run P w)) ∨
  (Region.wanted o (yielded ops a.tmps) = false ∧ v = undef ∧ ∀ listed w, i ∈ Region.ready md ops listed → C listed w → C (listed.setIfInBounds i true) w)
/-- number k0 yields the value x, whatever its world; the others as they do -/
def YieldsG (P : Program) (md : Region.Mode) (ops : Array Oper) (C : Array Bool → World → Prop) (k0 : Nat) (x : Value) (i : Nat) (o : Oper) (v : Value) (a : Act) : Prop :=
  (i = k0 ∧ v = x ∧ Region.wanted o (yielded ops a.tmps) = true) ∨ (i ≠ k0 ∧ YieldsV P md ops C i o v a)
theorem YieldsV.of_same {C : Array Bool → World → Prop} {i : Nat} {o : Oper} {v : Value} {a a' : Act} (hy : YieldsV P md ops C i o v a) (he : execOp a'.eval o = execOp a.eval o)
    (hw : Region.wanted o (yielded ops a'.tmps) = Region.wanted o (yielded ops a.tmps)) : YieldsV P md ops C i o v a' := by
  unfold YieldsV at *
  rw [he, hw]
  exact hy
/-- what is known of the operation k0: whatever it runs on, it runs alike at two acts -/
def G0 (k0 : Nat) (T : Act → Prop) (ops : Array Oper) : Prop := ∀ o, ops[k0]? = some o → ∀ a a' : Act, execOp a'.eval o = execOp a.eval o → T a → T a'
theorem YieldsG.of_same {C : Array Bool → World → Prop} {k0 : Nat} {x : Value} {i : Nat} {o : Oper} {v : Value} {a a' : Act} (hy : YieldsG P md ops C k0 x i o v a) (he : execOp a'.eval o = execOp a.eval o)
    (hw : Region.wanted o (yielded ops a'.tmps) = Region.wanted o (yielded ops a.tmps)) : YieldsG P md ops C k0 x i o v a' := by
  rcases hy with ⟨h1, h2, h3⟩ | ⟨h1, h2⟩
  · exact .inl ⟨h1, h2, by rw [hw]; exact h3⟩
  · exact .inr ⟨h1, h2.of_same he hw⟩
variable {C : Array Bool → World → Prop} {k0 : Nat} {x : Value} {T : Sem Next → Prop}
theorem uponV_val {Post Post' : World → Prop} {v v' : Value} {r : Result Next} (h : uponV Post v r) (h' : uponV Post' v' r) : v = v' := by
  cases r with
  | ok n w' =>
    cases n <;> simp only [uponV] at h h'
    · rw [← h.1, ← h'.1]
    · rw [h.1, h'.1]
  | halt y w' => simp only [uponV] at h
end
section
variable {P : Program} {ops : Array Oper} {rest : List Oper} {o : Oper} {a : Act} {Q : Act → Prop} {F : (Nat → Bool) → World → Prop} {js : List Nat} {k k0 : Nat} {md : Region.Mode} {x : Value} {T : Sem Next → Prop}
end
end Go.Proofs.Ytodbbacmdjcheaa
namespace Go.Proofs.Ytodbbacmdjcheaa
open Go.RowKit L02 L13 L18 L20
end Go.Proofs.Ytodbbacmdjcheaa
namespace Go.Proofs.Ytodbbacmdjcheaa
open Go.RowKit L02 L13 L18 L20
theorem OwnT.set {w : World} {B p i : Nat} {v u : Value} {L : List (List UInt8)} {t : TypeId} {cs : Array Value} (h : OwnT w B v L) (hg : Bx w p t cs) (h1 : 69 ≠ t) (h2 : 5 ≠ t) : OwnT (w.setCell ⟨p, i, none⟩ u) B v L := by
  obtain ⟨vs, a1, a2, a4⟩ := h; exact ⟨vs, a1, own_set a2 hg h1, fun i x l h5 h6 => own_set (a4 i x l h5 h6) hg h2⟩
theorem OwnO.set {w : World} {B p i : Nat} {v u : Value} {L : List Ob} {t : TypeId} {cs : Array Value} (h : OwnO w B v L) (hg : Bx w p t cs) (h1 : 109 ≠ t) (h2 : 64 ≠ t) : OwnO (w.setCell ⟨p, i, none⟩ u) B v L := by
  obtain ⟨vs, a1, a2, a4, a5⟩ := h; exact ⟨vs, a1, own_set a2 hg h1, fun i x l h5 h6 => own_set (a4 i x l h5 h6) hg h2, a5⟩
/-- one more object: xs the slices of fields, x the new one; the row was appended to. -/
theorem OwnO.snoc {w w' : World} {base n : Nat} {v v' x : Value} {L : List Ob} {o : Ob} {vs : List Value} (h1 : vs.length = L.length) (ho0 : w.ownsRow base 109 2 v L.length (obC L vs)) (ho : w'.ownsRow base 109 2 v' n (obC L vs ++ [i64 o.ty, x]))
    (h4 : ∀ (i : Nat) x l, vs[i]? = some x → L[i]? = some l → OwnW w base 64 x l.fs) (h5 : ∀ (i j : Nat) x y, i ≠ j → vs[i]? = some x → vs[j]? = some y → x.ownBlock = none ∨ x.ownBlock ≠ y.ownBlock)
    (hx : OwnW w base 64 x o.fs) (hap : ∀ (i : Nat) y, vs[i]? = some y → (x.ownBlock = none ∨ x.ownBlock ≠ y.ownBlock) ∧ (y.ownBlock = none ∨ y.ownBlock ≠ x.ownBlock)) (hg : w.grownBy w' v.ownBlock) : OwnO w' base v' (L ++ [o]) := by
  have hn : n = (L ++ [o]).length := by have := ho.1; rw [List.length_append, obC_len h1] at this; simp at this ⊢; omega
  subst hn
  have keep : ∀ y m, OwnW w base 64 y m → OwnW w' base 64 y m := fun y m hy => World.ownsRow.kept hy hg (own_unlike hy ho0 (by decide))
  have idx : ∀ i, i ≥ vs.length → ∀ y, (vs ++ [x])[i]? = some y → i = vs.length ∧ y = x := by
    intro i hi y hy
    rw [List.getElem?_append_right hi] at hy
    have h0 : i - vs.length = 0 := by
      rcases Nat.eq_zero_or_pos (i - vs.length) with h | h
      · exact h
      · rw [List.getElem?_eq_none (by simp; omega)] at hy; cases hy
    rw [h0] at hy
    simp at hy
    exact ⟨by omega, hy.symm⟩
  refine ⟨vs ++ [x], by simp [h1], by rw [obC_snoc h1]; exact ho, fun i y l hy hl => ?_, fun i j y z hij hy hz => ?_⟩
  · by_cases hi : i < vs.length
    · rw [List.getElem?_append_left hi] at hy
      rw [List.getElem?_append_left (by omega)] at hl
      exact keep _ _ (h4 i y l hy hl)
    · obtain ⟨rfl, rfl⟩ := idx i (by omega) y hy
      rw [List.getElem?_append_right (by omega), h1] at hl
      simp at hl; subst hl
      exact keep _ _ hx
  · by_cases hi : i < vs.length
    · rw [List.getElem?_append_left hi] at hy
      by_cases hj : j < vs.length
      · rw [List.getElem?_append_left hj] at hz
        exact h5 i j y z hij hy hz
      · obtain ⟨_, rfl⟩ := idx j (by omega) z hz
        exact (hap i y hy).2
    · obtain ⟨e1, rfl⟩ := idx i (by omega) y hy
      by_cases hj : j < vs.length
      · rw [List.getElem?_append_left hj] at hz
        exact (hap j z hz).1
      · obtain ⟨e2, rfl⟩ := idx j (by omega) z hz
        omega
theorem OwnT.kept {w w' : World} {B B2 e n sz : Nat} {v a : Value} {L : List (List UInt8)} {xs : List Value} (h : OwnT w B v L) (ha : w.ownsRow B2 e sz a n xs) (hg : w.grownBy w' a.ownBlock) (h1 : 69 ≠ e) (h2 : 5 ≠ e) : OwnT w' B v L := by
  obtain ⟨vs, a1, a2, a4⟩ := h
  exact ⟨vs, a1, World.ownsRow.kept a2 hg (own_unlike a2 ha h1), fun i x l h5 h6 => World.ownsRow.kept (a4 i x l h5 h6) hg (own_unlike (a4 i x l h5 h6) ha h2)⟩
theorem OwnM.set {w : World} {B p i : Nat} {tv ov sv u : Value} {m : Mo} {cs : Array Value} (h : OwnM w B 56 tv ov sv m) (hg : Bx w p 50 cs) : OwnM (w.setCell ⟨p, i, none⟩ u) B 56 tv ov sv m :=
  ⟨h.t.set hg (by decide) (by decide), h.o.set hg (by decide) (by decide), own_set h.s hg (by decide)⟩
end Go.Proofs.Ytodbbacmdjcheaa
namespace Go.Proofs.Ytodbbacmdjcheaa
open Go.RowKit L02 L13 L18 L20
theorem tabL_set (S : List Sl) (k : Nat) (s : Sl) (hk : k < S.length) : (((tabL S).set (k * 3) (.int .i64 s.gen)).set (k * 3 + 1) (.bool s.used)).set (k * 3 + 2) (.int .i64 s.at_) = tabL (S.set k s) := by
  apply List.ext_getElem?
  intro i
  by_cases hi : i < S.length * 3
  · obtain ⟨q, r, hr, rfl⟩ : ∃ q r, r < 3 ∧ i = q * 3 + r := ⟨i / 3, i % 3, Nat.mod_lt _ (by omega), by omega⟩
    have hq : q < S.length := by omega
    by_cases hqk : q = k
    · subst hqk
      have h1 := tabL_get (S.set q s) q s (by simp [hq]) r hr
      rw [h1]
      have hl : (tabL S).length = S.length * 3 := tabL_len S
      have : r = 0 ∨ r = 1 ∨ r = 2 := by omega
      rcases this with rfl | rfl | rfl
      · rw [List.getElem?_set_ne (by omega), List.getElem?_set_ne (by omega), Nat.add_zero, List.getElem?_set_self (by omega)]; rfl
      · rw [List.getElem?_set_ne (by omega), List.getElem?_set_self (by simp; omega)]; rfl
      · rw [List.getElem?_set_self (by simp; omega)]; rfl
    · have hs : S[q]? = some S[q] := List.getElem?_eq_getElem hq
      have h1 := tabL_get (S.set k s) q S[q] (by rw [List.getElem?_set_ne (Ne.symm hqk)]; exact hs) r hr
      have h2 := tabL_get S q S[q] hs r hr
      rw [h1, List.getElem?_set_ne (by omega), List.getElem?_set_ne (by omega), List.getElem?_set_ne (by omega), h2]
  · rw [List.getElem?_eq_none (by simp [tabL_len]; omega), List.getElem?_eq_none (by simp [tabL_len]; omega)]
theorem OwnS.form {w : World} {B E : Nat} {v : Value} {S : List Sl} (h : OwnS w B E v S) (hn : 0 < S.length) : ∃ g n c, v = .slice (some ⟨g, 0, none⟩) n c ∧ n = S.length := by
  obtain ⟨g, cap, cur, hv, _⟩ := own_form h hn
  exact ⟨g, _, cap, hv, rfl⟩
theorem OwnS.cells {w : World} {B E g n c k : Nat} {S : List Sl} {s : Sl} (h : OwnS w B E (.slice (some ⟨g, 0, none⟩) n c) S) (hs : S[k]? = some s) :
    (∀ W, (Instr.indexAt 48 (.slice (some ⟨g, 0, none⟩) n c) (.int .i64 (k : Int))).run Try.prog W = .ok (.pointer (some ⟨g, k * 3, none⟩)) W) ∧ w.cell? ⟨g, k * 3, none⟩ = some (.int .i64 s.gen) ∧ w.cell? ⟨g, k * 3 + 1, none⟩ = some (.bool s.used) ∧ w.cell? ⟨g, k * 3 + 2, none⟩ = some (.int .i64 s.at_) := by
  have hk : k < S.length := (List.getElem?_eq_some_iff.1 hs).1
  have t0 := Rd.cell (OwnS.rd h) (tabL_get S k s hs 0 (by omega))
  have t1 := Rd.cell (OwnS.rd h) (tabL_get S k s hs 1 (by omega))
  have t2 := Rd.cell (OwnS.rd h) (tabL_get S k s hs 2 (by omega))
  refine ⟨fun W => ?_, ?_, ?_, ?_⟩
  · have := Rd.ixN (P := Try.prog) (OwnS.rd h) Try.underlying48 size_slot hk W
    simpa [cellAt] using this
  · simpa [cellAt] using t0
  · simpa [cellAt] using t1
  · simpa [cellAt] using t2
/-- a model's own slots changed, all else kept -/
theorem OwnM.slots {w W : World} {B g n c : Nat} {tv ov : Value} {m : Mo} {S : List Sl} (h : OwnM w B 56 tv ov (.slice (some ⟨g, 0, none⟩) n c) m) (hg : w.grownBy W (some g)) (hS : OwnS W B 56 (.slice (some ⟨g, 0, none⟩) n c) S) :
    OwnM W B 56 tv ov (.slice (some ⟨g, 0, none⟩) n c) ⟨m.types, m.objs, S⟩ := by
  refine ⟨OwnT.kept h.t h.s hg (by decide) (by decide), ?_, hS⟩
  obtain ⟨vs, a1, a2, a4, a5⟩ := h.o
  exact ⟨vs, a1, World.ownsRow.kept a2 hg (own_unlike a2 h.s (by decide)), fun i x l h5 h6 => World.ownsRow.kept (a4 i x l h5 h6) hg (own_unlike (a4 i x l h5 h6) h.s (by decide)), a5⟩
/-- all old blocks but one are as they were -/
def Keep (w w' : World) (row : Option Nat) : Prop := w.heap.size ≤ w'.heap.size ∧ ∀ k, k < w.heap.size → some k ≠ row → w'.heap[k]? = w.heap[k]?
theorem Keep.grown {w w' w'' : World} {row : Option Nat} (h : Keep w w' row) (hg : w'.grownBy w'' row) : Keep w w'' row := ⟨Nat.le_trans h.1 hg.size, fun k hk hr => (hg.block k (Nat.lt_of_lt_of_le hk h.1) hr).trans (h.2 k hk hr)⟩
theorem Keep.setCell {w w' : World} {row : Option Nat} (h : Keep w w' row) {p : Addr} (hp : w.heap.size ≤ p.block) (u : Value) : Keep w (w'.setCell p u) row :=
  ⟨by simpa [World.setCell] using h.1, fun k hk hr => (Below.heap_setCell w' p u k (by omega)).trans (h.2 k hk hr)⟩
theorem Bx.keep {w w' : World} {g : Nat} {t : TypeId} {cs : Array Value} {row : Option Nat} (h : Bx w g t cs) (hk : Keep w w' row) (hne : row = none ∨ row ≠ some g) : Bx w' g t cs := by
  have hl := h.lt
  unfold Bx at *
  rw [hk.2 g hl (by
    rcases hne with rfl | h
    · simp
    · exact fun e => h e.symm)]
  exact h
end Go.Proofs.Ytodbbacmdjcheaa
namespace Go.Proofs.Ytodbbacmdjcheaa
open Go.RowKit L02 L13 L18 L20
/-- the number of a slot is stored -/
theorem OwnS.put1 {w : World} {B E g n c k : Nat} {S : List Sl} {s : Sl} (h : OwnS w B E (.slice (some ⟨g, 0, none⟩) n c) S) (hs : S[k]? = some s) (a : Int) :
    OwnS (w.setCell ⟨g, k * 3 + 2, none⟩ (.int .i64 a)) B E (.slice (some ⟨g, 0, none⟩) n c) (S.set k ⟨s.gen, s.used, a⟩) ∧
      w.grownBy (w.setCell ⟨g, k * 3 + 2, none⟩ (.int .i64 a)) (some g) ∧ B ≤ g ∧ g < w.heap.size ∧ ∀ j, w.frozen? ⟨g, j, none⟩ = false := by
  have hk : k < S.length := (List.getElem?_eq_some_iff.1 hs).1
  have hn : n = S.length := by
    obtain ⟨g', cap, cur, hv, _⟩ := own_form h (by omega)
    injection hv
  subst hn
  have h3 := World.ownsRow.stored h (k * 3 + 2) (.int .i64 a)
  have hl := h.lt g rfl
  have hsame : ∀ i : Nat, i < 3 → ∀ u, (slC s)[i]? = some u → (tabL S).set (k * 3 + i) u = tabL S := by
    intro i hi u hu
    have t0 := tabL_get S k s hs i hi
    rw [hu] at t0
    apply List.ext_getElem?
    intro j
    by_cases hj : j = k * 3 + i
    · subst hj
      rw [List.getElem?_set_self (List.getElem?_eq_some_iff.1 t0).1, t0]
    · rw [List.getElem?_set_ne (Ne.symm hj)]
  have h0 := hsame 0 (by omega) (.int .i64 s.gen) rfl
  have h1 := hsame 1 (by omega) (.bool s.used) rfl
  rw [Nat.add_zero] at h0
  refine ⟨?_, h3.2, hl.1, hl.2, fun j => h.frozenAt j⟩
  unfold OwnS
  rw [← tabL_set S k ⟨s.gen, s.used, a⟩ hk, List.length_set]
  show World.ownsRow _ _ _ _ _ _ ((((tabL S).set (k * 3) (.int .i64 s.gen)).set (k * 3 + 1) (.bool s.used)).set (k * 3 + 2) (.int .i64 a))
  rw [h0, h1]
  exact h3.1
end Go.Proofs.Ytodbbacmdjcheaa
namespace Go.Proofs.Ytodbbacmdjcheaa
open Go.RowKit L01 L02 L05 L06 L07 L13 L14 L15 L16 L18 L19
/-- the heap is one free extent -/
def whole (L : List Hb) : Bool := match L with | [b] => decide (b.kind = 2) | _ => false
def emp (l : List UInt64) : Bool := if chk19 l = 0 then whole (allL l) && !anyU (slots l) else false
theorem whole_one {l : List UInt64} (h : allErr l = 0) {f : Hb} (hF : freeL l = [f]) : (decide (f.at_ = 128) && decide (f.size = (l.length : Int) - 128)) = whole (allL l) := by
  have hu := fun b hb c hc => (all_apart h (a := b) (b := c) hb hc)
  obtain ⟨hseg, _⟩ := seg_of_all h
  unfold freeL at hF
  obtain ⟨L, hL⟩ : ∃ L, L = allL l := ⟨_, rfl⟩
  rw [← hL] at hF hseg hu ⊢
  have hfm : f ∈ free L := by rw [hF]; simp
  obtain ⟨hf, hk⟩ := free_mem.1 hfm
  match L, hF, hseg, hu, hf with
  | [b], hF, hseg, _, hf =>
    rw [List.mem_singleton] at hf; subst hf
    obtain ⟨h1, h2, _⟩ := hseg.one
    rw [decide_eq_true (show f.at_ = 128 by omega), decide_eq_true (show f.size = (l.length : Int) - 128 by omega)]
    show true = decide (f.kind = 2)
    rw [decide_eq_true hk]
  | b :: c :: L, hF, hseg, hu, hf =>
    have hw : whole (b :: c :: L) = false := rfl
    rw [hw, Bool.and_eq_false_iff, decide_eq_false_iff_not, decide_eq_false_iff_not]
    by_cases h1 : f.at_ = 128
    · right
      intro h2
      obtain ⟨b1, b2, _, _, b3, b4⟩ := hseg.head
      have hbb := b2.bounds
      have hfb : f = b := by
        rcases hu f hf b List.mem_cons_self with e | e | e
        · exact e
        · have := (hseg.bound hf).2.2; omega
        · omega
      subst hfb
      obtain ⟨c1, c2, _, _, c3, c4⟩ := b4.head
      have := b4.le
      have := c2.bounds
      have := c4.le
      omega
    · exact .inl h1
theorem whole_not {l : List UInt64} (hF : (freeL l).length ≠ 1) : whole (allL l) = false := by
  unfold freeL at hF
  unfold whole
  split
  · rename_i b e
    rw [e] at hF
    rw [decide_eq_false_iff_not]
    intro hk
    apply hF
    unfold free
    rw [List.filter_cons_of_pos (by simpa using hk)]; rfl
  · rfl
set_option maxRecDepth 100000 in
set_option maxHeartbeats 1000000 in
theorem Empty36_any (v : Value) (l : List UInt64) (b : Bool) (r : Int) (hb : b = emp l) (hr : r = chk19 l) (w : World) (h : Words w v l) :
    Calls Try.prog 19 #[v] w fun e w' => e = .returned (.tuple #[.bool b, .int .i64 r]) ∧ Below w.heap.size w w' := by
  have B : Below w.heap.size w w := Below.refl _ _
  have H := Lib.hid h
  have CK := Lib.hid (fun w h => Check19_any v l r hr w h)
  by_cases h0 : r = 0
  case neg =>
    have hb0 : b = false := by rw [hb, emp, if_neg (by rw [← hr]; exact h0)]
    subst hb0
    have n1 : (r != 0) = true := by rw [bne_iff_ne]; exact h0
    clear hb hr h h0
    go_enter Try.func19, Try.ntmps19
    go_wp2_with fail
    refine (CK.out _ (H.out.below B)).mono ?_
    rintro e wa1 ⟨rfl, b⟩
    replace B := B.trans (b.mono B.size); clear b
    go_wp2
    go_ret2
    exact ⟨rfl, B⟩
  case pos =>
    subst h0
    have rt : Rt l := Rt.of hr.symm
    have hl2 := rt.sz.2.1
    obtain ⟨F, hF⟩ : ∃ F, F = freeL l := ⟨_, rfl⟩
    obtain ⟨S, hS⟩ : ∃ S, S = slots l := ⟨_, rfl⟩
    have hS16 : S.length = 16 := by rw [hS]; exact slots_len' rt.sl
    have FT := Lib.hid (fun w h => FreeW_any v l F 0 hF rt.al.symm w h)
    have AT := Lib.hid (fun w h => All18_any v l S 0 (by rw [hS, all, if_pos rt.sl]) rt.sl.symm w h)
    obtain ⟨c, hc⟩ : ∃ c, c = anyU S := ⟨_, rfl⟩
    have AU := Lib.hid (fun x w (h : Slots w x S) => anyFun_any x S c hc w h (by omega))
    obtain ⟨N, hN⟩ : ∃ N, N = l.length := ⟨_, rfl⟩
    have lw := Rd.len h Try.underlying25
    rw [← hN] at lw
    have hwN : IntKind.i64.wrap ((N : Int) - 128) = (N : Int) - 128 := IntWalk.i64_in _ (by omega)
    have hbe : b = (whole (allL l) && !c) := by rw [hb, emp, if_pos hr.symm, hc, hS]
    by_cases h1 : F.length = 1
    case neg =>
      have hb0 : b = false := by rw [hbe, whole_not (by rw [← hF]; exact h1)]; rfl
      subst hb0
      have n1 : ((F.length : Int) == 1) = false := by rw [beq_eq_false_iff_ne]; omega
      obtain ⟨M, hM⟩ : ∃ M, M = F.length := ⟨_, rfl⟩
      rw [← hM] at n1
      have HM := Lib.hid hM
      clear hb hr h rt hl2 hF hS hS16 hc hN hbe h1 hM
      go_enter Try.func19, Try.ntmps19
      go_wp2_with fail
      refine (CK.out _ (H.out.below B)).mono ?_
      rintro e wa1 ⟨rfl, b⟩
      replace B := B.trans (b.mono B.size); clear b
      go_wp2_with fail
      refine (FT.out _ (H.out.below B)).mono ?_
      rintro e wa2 ⟨xf, rfl, of, b⟩
      replace B := B.trans (b.mono B.size); clear b
      go_wp2_with fail
      refine (AT.out _ (H.out.below B)).mono ?_
      rintro e wa3 ⟨xs, E, rfl, os, b⟩
      replace of := of.below b; replace B := B.trans (b.mono B.size); clear b
      have lf := of.rd.len
      rw [← HM.out] at lf
      go_wp2
      go_ret2
      exact ⟨rfl, B⟩
    case pos =>
      obtain ⟨f, hf⟩ := List.length_eq_one_iff.1 h1
      subst hf
      have hwo := whole_one rt.al hF.symm
      obtain ⟨p1, hp1⟩ : ∃ p, p = decide (f.at_ = 128) := ⟨_, rfl⟩
      obtain ⟨p2, hp2⟩ : ∃ p, p = decide (f.size = (l.length : Int) - 128) := ⟨_, rfl⟩
      rw [← hp1, ← hp2] at hwo
      have q1 : (f.at_ == 128) = p1 := by rw [hp1, Bool.eq_iff_iff, beq_iff_eq, decide_eq_true_iff]
      have q2 : (f.size == (N : Int) - 128) = p2 := by rw [hp2, ← hN, Bool.eq_iff_iff, beq_iff_eq, decide_eq_true_iff]
      rw [← hwo] at hbe
      have HBE := Lib.hid hbe
      clear hb hr h rt hl2 hF hS hS16 hc hN hbe h1 hp1 hp2 hwo
      go_enter Try.func19, Try.ntmps19
      go_wp2_with fail
      refine (CK.out _ (H.out.below B)).mono ?_
      rintro e wa1 ⟨rfl, b⟩
      replace B := B.trans (b.mono B.size); clear b
      go_wp2_with fail
      refine (FT.out _ (H.out.below B)).mono ?_
      rintro e wa2 ⟨xf, rfl, of, b⟩
      replace B := B.trans (b.mono B.size); clear b
      go_wp2_with fail
      refine (AT.out _ (H.out.below B)).mono ?_
      rintro e wa3 ⟨xs, E, rfl, os, b⟩
      replace of := of.below b; replace B := B.trans (b.mono B.size); clear b
      have lf := of.rd.len
      obtain ⟨bb, oo, f', ia, m0, m1, m2, m3, m4, m5, hf', _⟩ := of.rd.at_ (k := 0) (by simp)
      obtain rfl : f' = f := by have := hf'.out; simp at this; exact this.symm
      have ia0 : ∀ W, (Instr.indexAt 92 xf (.int .i64 0)).run Try.prog W = .ok (.pointer (some ⟨bb, oo, none⟩)) W := ia
      have HOS := Lib.hid os.rd
      clear ia of os hf'
      have lf1 : ∀ ty W, (Builtin.len_ #[92] ty #[xf]).run Try.prog W = .ok (.int .i64 1) W := lf
      clear lf
      cases p1 <;> cases p2
      all_goals try
        go_wp2
        go_ret2
        exact ⟨by rw [HBE.out]; rfl, B⟩
      · go_wp2_with fail
        refine (AU.out _ _ HOS.out).mono ?_
        rintro e w2 ⟨rfl, b2⟩
        replace B := B.trans (b2.mono B.size)
        go_wp2
        go_ret2
        refine ⟨?_, B⟩
        rw [HBE.out]; simp
end Go.Proofs.Ytodbbacmdjcheaa
namespace Go.Proofs.Ytodbbacmdjcheaa
open Go Go.RowKit
section
variable {P : Program} {ops : Array Oper} {w : World}
theorem wpStill_of_quiet {Q : Act → Prop} : ∀ (l : List Oper) (a : Act), wpQuiet P ops (fun W => W = w) Q l a → wpStill P ops w Q l a
  | [], a, h => h
  | o :: l, a, h => by
    unfold wpQuiet at h
    unfold wpStill
    by_cases hw : Region.wanted o (yielded ops a.tmps) = true
    · rw [if_pos hw] at h ⊢
      obtain ⟨v, h1, h2⟩ := h
      have h3 := h1 w rfl
      have h4 := wpStill_of_quiet l _ h2
      unfold Oper.quietAt at h3
      unfold Oper.still
      cases hr : (execOp a.eval o).run P w with
      | ok n w' =>
        rw [hr] at h3
        cases n with
        | value u => obtain ⟨e1, e2⟩ := h3; subst e2; exact ⟨e1, h4⟩
        | skip => obtain ⟨e1, e2⟩ := h3; subst e2; exact ⟨e1, h4⟩
        | enter f args => obtain ⟨e1, e2⟩ := h3; exact ⟨e1, v, e2, h4⟩
        | _ => exact absurd h3 id
      | halt x w' => rw [hr] at h3; exact absurd h3 id
    · rw [if_neg hw] at h ⊢
      exact wpStill_of_quiet l _ h
theorem wp_region_qtail {id : Nat} {Q : Exit → Act → World → Prop} {a : Act} {l : List Oper} (n : Nat) (hm : P.follows .mixedOrders = true) (hB : Region.lexTailB .any l.toArray n = true)
    (h : wpQuiet P l.toArray (fun W => W = w.drew) (fun a' => wpList P l.toArray Q (l.drop n) a' w.drew) (l.take n) a) : (Code.region id l.toArray true).wp P Q a w :=
  wp_region_still_tail n hm hB (wpStill_of_quiet _ _ h)
end
end Go.Proofs.Ytodbbacmdjcheaa
namespace Go.Proofs.Ytodbbacmdjcheaa
open Go.RowKit L01 L02 L05 L06 L07 L13 L14 L15 L18 L19 L20
end Go.Proofs.Ytodbbacmdjcheaa
namespace Go.Proofs.Ytodbbacmdjcheaa
open Go.RowKit L01 L02 L18
end Go.Proofs.Ytodbbacmdjcheaa
namespace Go.Proofs.Ytodbbacmdjcheaa
open Go.RowKit L01 L02 L05 L06 L07 L13 L14 L15 L18 L19 L20
end Go.Proofs.Ytodbbacmdjcheaa
namespace Go.Proofs.Ytodbbacmdjcheaa
open Go.RowKit L01 L02 L05 L06 L07 L13 L14 L15 L18 L19 L20
end Go.Proofs.Ytodbbacmdjcheaa
namespace Go.Proofs.Ytodbbacmdjcheaa
open Go.RowKit
/-- a pointer to a handle, or none -/
def PtrH (w : World) (v : Value) (tt : Option (Int × Int)) : Prop := match tt with
  | none => v = .pointer none
  | some t => ∃ g, v = .pointer (some ⟨g, 0, none⟩) ∧ Bx w g 61 #[.int .i64 t.1, .int .i64 t.2]
theorem PtrH.below {w w' : World} {v : Value} {tt : Option (Int × Int)} (h : PtrH w v tt) (hb : Below w.heap.size w w') : PtrH w' v tt := by
  cases tt with
  | none => exact h
  | some t => obtain ⟨g, h1, h2⟩ := h; exact ⟨g, h1, h2.below hb⟩
end Go.Proofs.Ytodbbacmdjcheaa
namespace Go.Proofs.Ytodbbacmdjcheaa
open Go.RowKit L01 L02 L05 L06 L07 L13 L14 L15 L18 L19 L20
theorem ent_own {w : World} {base : Nat} {a : Int} {x : UInt64} (h : base ≤ w.heap.size) : OwnE (w.alloc (.cells #[.int .i64 a, .int .u64 x.toNat] 66)) base (.slice (some ⟨w.heap.size, 0, none⟩) 1 1) [(a, x)] :=
  ⟨rfl, .inr ⟨w.heap.size, 1, #[.int .i64 a, .int .u64 x.toNat], rfl, h, blk_new w _, Nat.le_refl _, by decide, rfl, rfl⟩⟩
end Go.Proofs.Ytodbbacmdjcheaa
namespace Go.Proofs.Ytodbbacmdjcheaa
open Go.RowKit L01 L02 L05 L06 L07 L13 L14 L15 L16 L18 L19
theorem runE_zero (p : Nat) (x : UInt64) (k : Nat) : runE (p : Int) (x :: List.replicate (k + 1) 0) = runE (p : Int) (x :: List.replicate k 0) ++ [((p : Int) + ((k + 1 : Nat) : Int), 0)] := by
  rw [List.replicate_succ', ← List.cons_append, runE_app, List.length_cons, List.length_replicate]; rfl
theorem one_ents : (Try.prog.info? 59).map (·.size) = some 1 := by kernel_rfl
theorem eC_one (E : List (Int × UInt64)) : ∀ u ∈ eC E, u.oneCell' = true := by
  intro u hu
  obtain ⟨e, _, h⟩ := List.mem_flatMap.1 hu
  simp at h
  rcases h with rfl | rfl <;> rfl
set_option maxRecDepth 100000 in
set_option maxHeartbeats 2000000 in
theorem Left_any (p n c : Nat) (b : Hb) (hb : b.at_ = p) (hs : b.size = c) (hk : b.kind = 2) (hok : BkOk b) (hn : RightN n) (hle : n ≤ c) (hp : p ≤ 100000) (w : World) :
    Calls Try.prog 51 #[.agg #[.int .i64 b.at_, .int .i64 b.size, .int .i64 b.kind, .int .i64 b.ty, .bool b.mark, .int .u64 b.next.toNat], .int .i64 n] w fun e w' => (c = n → e = .returned (.tuple #[.agg zeroB, .bool false, .int .i64 0])) ∧ (c ≠ n → e = .returned (.tuple #[.agg (bkA (restH p n c)), .bool true, .int .i64 0])) ∧ Below w.heap.size w w' := by
  have B : Below w.heap.size w w := Below.refl _ _
  have CT := Lib.hid (fun w => HCheck_any b 0 (hErr_ok hok).symm w)
  have RT := Lib.hid (fun w => right21_any n true (decide_eq_true hn).symm w)
  have hbd := hok.bounds
  obtain ⟨bat, bsz, bk1, bty, bmk, bnx⟩ := b
  dsimp only at hb hs hk hbd CT
  subst hb; subst hs; subst hk
  clear hok hn
  by_cases he : c = n
  · subst he
    have g1 : decide ((c : Int) < (c : Int)) = false := decide_eq_false (by omega)
    go_enter Try.func51, Try.ntmps51
    go_upto_region 1 with (fail)
    refine wp_gen (fun Wv => Bx Wv (w.heap.size) (84) (#[.int .i64 p, .int .i64 c, .int .i64 2, .int .i64 bty, .bool bmk, .int .u64 bnx.toNat]) ∧ Bx Wv (w.heap.size + 1) (84) (#[.int .i64 0, .int .i64 0, .int .i64 0, .int .i64 0, .bool false, .int .u64 0]) ∧ Below w.heap.size w Wv) ⟨(((Bx.at_ (by simp)).alloc _)), ((Bx.at_ (by simp))), (((Below.refl _ w).alloc (by simp <;> omega) _).alloc (by simp <;> omega) _)⟩ ?_
    rintro wa1 ⟨g1, g2, b⟩
    replace B := B.trans (b.mono B.size); clear b
    have c_g1 := g1.cell; have f_g1 := g1.free; have a_g1 := fun o => (g1.alloc o).cell; have d_g1 := fun o o2 => ((g1.alloc o).alloc o2).cell; have e_g1 := fun o => (g1.alloc o).free
    have c_g2 := g2.cell; have f_g2 := g2.free; have a_g2 := fun o => (g2.alloc o).cell; have d_g2 := fun o o2 => ((g2.alloc o).alloc o2).cell; have e_g2 := fun o => (g2.alloc o).free
    go_wp2_with fail
    refine (CT.out _).mono ?_
    rintro e wa2 ⟨rfl, b⟩
    try clear c_g1 f_g1 a_g1 d_g1 e_g1
    replace g1 := g1.below b; have c_g1 := g1.cell; have f_g1 := g1.free; have a_g1 := fun o => (g1.alloc o).cell; have d_g1 := fun o o2 => ((g1.alloc o).alloc o2).cell; have e_g1 := fun o => (g1.alloc o).free; try clear c_g2 f_g2 a_g2 d_g2 e_g2
    replace g2 := g2.below b; have c_g2 := g2.cell; have f_g2 := g2.free; have a_g2 := fun o => (g2.alloc o).cell; have d_g2 := fun o o2 => ((g2.alloc o).alloc o2).cell; have e_g2 := fun o => (g2.alloc o).free; replace B := B.trans (b.mono B.size); clear b
    go_wp2_with fail
    refine (RT.out _).mono ?_
    rintro e w3 ⟨rfl, rfl⟩
    go_wp2
    refine bodyPost_ret (v := .tuple #[.agg #[.int .i64 0, .int .i64 0, .int .i64 0, .int .i64 0, .bool false, .int .u64 0], .bool false, .int .i64 0]) (by simp [results, Try.results51, go_sem, c_g1, f_g1, a_g1, e_g1, c_g2, f_g2, a_g2, e_g2]) rfl ?_
    refine ⟨fun _ => rfl, fun h => absurd rfl h, ?_⟩
    (repeat (first | refine Below.setCell ?_ (by first | exact Nat.le_refl _ | (simp <;> omega)) _ | refine Below.alloc ?_ (by first | exact B.size | (have := B.size; simp <;> omega)) _)); exact B
  · have g1 : decide ((c : Int) < (n : Int)) = false := decide_eq_false (by omega)
    have g2 : ((n : Int) == (c : Int)) = false := by rw [beq_eq_false_iff_ne]; omega
    have w1 : IntKind.i64.wrap ((p : Int) + (n : Int)) = (p : Int) + (n : Int) := IntWalk.i64_in _ (by omega)
    have w2 : IntKind.i64.wrap ((c : Int) - (n : Int)) = (c : Int) - (n : Int) := IntWalk.i64_in _ (by omega)
    go_enter Try.func51, Try.ntmps51
    go_upto_region 1 with (fail)
    refine wp_gen (fun Wv => Bx Wv (w.heap.size) (84) (#[.int .i64 p, .int .i64 c, .int .i64 2, .int .i64 bty, .bool bmk, .int .u64 bnx.toNat]) ∧ Bx Wv (w.heap.size + 1) (84) (#[.int .i64 0, .int .i64 0, .int .i64 0, .int .i64 0, .bool false, .int .u64 0]) ∧ Below w.heap.size w Wv) ⟨(((Bx.at_ (by simp)).alloc _)), ((Bx.at_ (by simp))), (((Below.refl _ w).alloc (by simp <;> omega) _).alloc (by simp <;> omega) _)⟩ ?_
    rintro wa1 ⟨g1, g2, b⟩
    replace B := B.trans (b.mono B.size); clear b
    have c_g1 := g1.cell; have f_g1 := g1.free; have a_g1 := fun o => (g1.alloc o).cell; have d_g1 := fun o o2 => ((g1.alloc o).alloc o2).cell; have e_g1 := fun o => (g1.alloc o).free
    have c_g2 := g2.cell; have f_g2 := g2.free; have a_g2 := fun o => (g2.alloc o).cell; have d_g2 := fun o o2 => ((g2.alloc o).alloc o2).cell; have e_g2 := fun o => (g2.alloc o).free
    go_wp2_with fail
    refine (CT.out _).mono ?_
    rintro e wa2 ⟨rfl, b⟩
    try clear c_g1 f_g1 a_g1 d_g1 e_g1
    replace g1 := g1.below b; have c_g1 := g1.cell; have f_g1 := g1.free; have a_g1 := fun o => (g1.alloc o).cell; have d_g1 := fun o o2 => ((g1.alloc o).alloc o2).cell; have e_g1 := fun o => (g1.alloc o).free; try clear c_g2 f_g2 a_g2 d_g2 e_g2
    replace g2 := g2.below b; have c_g2 := g2.cell; have f_g2 := g2.free; have a_g2 := fun o => (g2.alloc o).cell; have d_g2 := fun o o2 => ((g2.alloc o).alloc o2).cell; have e_g2 := fun o => (g2.alloc o).free; replace B := B.trans (b.mono B.size); clear b
    go_wp2_with fail
    refine (RT.out _).mono ?_
    rintro e w3 ⟨rfl, rfl⟩
    go_wp2
    have HE := Lib.hid (show bkA (restH p n c) = #[.int .i64 ((p : Int) + (n : Int)), .int .i64 ((c : Int) - (n : Int)), .int .i64 2, .int .i64 0, .bool false, .int .u64 0] from by
      unfold bkA restH
      dsimp only
      rw [show ((p + n : Nat) : Int) = (p : Int) + (n : Int) by omega, show ((c - n : Nat) : Int) = (c : Int) - (n : Int) by omega]
      rfl)
    refine bodyPost_ret (v := .tuple #[.agg #[.int .i64 ((p : Int) + (n : Int)), .int .i64 ((c : Int) - (n : Int)), .int .i64 2, .int .i64 0, .bool false, .int .u64 0], .bool true, .int .i64 0]) (by simp [results, Try.results51, go_sem, c_g1, f_g1, a_g1, e_g1, c_g2, f_g2, a_g2, e_g2]) rfl ?_
    refine ⟨fun h => absurd h he, fun _ => by rw [HE.out], ?_⟩
    (repeat (first | refine Below.setCell ?_ (by first | exact Nat.le_refl _ | (simp <;> omega)) _ | refine Below.alloc ?_ (by first | exact B.size | (have := B.size; simp <;> omega)) _)); exact B
set_option maxRecDepth 100000 in
set_option maxHeartbeats 2000000 in
theorem block22_any (p : Nat) (m : Nat) (b : Hb) (x : UInt64) (hb : b.at_ = p) (hx : x = L14.word b) (hok : BkOk b) (hp : p ≤ 100000) (hm : m ≤ 20) (w : World) :
    Calls Try.prog 50 #[.agg #[.int .i64 b.at_, .int .i64 b.size, .int .i64 b.kind, .int .i64 b.ty, .bool b.mark, .int .u64 b.next.toNat], .int .i64 m] w fun e w' => ∃ y, e = .returned (.tuple #[y, .int .i64 0]) ∧ OwnE w' w.heap.size y (runE p (x :: List.replicate m 0)) ∧ Below w.heap.size w w' := by
  have B : Below w.heap.size w w := Below.refl _ _
  have WT := Lib.hid (fun w => HWord_any b x 0 hx (hErr_ok hok).symm w)
  obtain ⟨bat, bsz, bk1, bty, bmk, bnx⟩ := b
  dsimp only at hb WT
  subst hb
  clear hok hx
  go_enter Try.func50, Try.ntmps50
  go_upto_region 1 with (fail)
  refine wp_gen (fun Wv => Bx Wv (w.heap.size) (84) (#[.int .i64 p, .int .i64 bsz, .int .i64 bk1, .int .i64 bty, .bool bmk, .int .u64 bnx.toNat]) ∧ Below w.heap.size w Wv) ⟨((Bx.at_ (by simp))), ((Below.refl _ w).alloc (by simp <;> omega) _)⟩ ?_
  rintro wa1 ⟨g1, b⟩
  replace B := B.trans (b.mono B.size); clear b
  have c_g1 := g1.cell; have f_g1 := g1.free; have a_g1 := fun o => (g1.alloc o).cell; have d_g1 := fun o o2 => ((g1.alloc o).alloc o2).cell; have e_g1 := fun o => (g1.alloc o).free
  go_wp2_with fail
  refine (WT.out _).mono ?_
  rintro e wa2 ⟨rfl, b⟩
  try clear c_g1 f_g1 a_g1 d_g1 e_g1
  replace g1 := g1.below b; have c_g1 := g1.cell; have f_g1 := g1.free; have a_g1 := fun o => (g1.alloc o).cell; have d_g1 := fun o o2 => ((g1.alloc o).alloc o2).cell; have e_g1 := fun o => (g1.alloc o).free; replace B := B.trans (b.mono B.size); clear b
  have hb1 := B.size
  go_upto_region 3 with (fail)
  have hfr : OwnE (wa2.alloc (.cells #[.int .i64 p, .int .u64 x.toNat] 66)) w.heap.size (.slice (some ⟨wa2.heap.size, 0, none⟩) 1 1) (runE p (x :: List.replicate 0 0)) := ent_own hb1
  refine wp_gen (fun V => OwnE V w.heap.size (.slice (some ⟨wa2.heap.size, 0, none⟩) 1 1) (runE p (x :: List.replicate 0 0)) ∧ Bx V w.heap.size 84 #[.int .i64 p, .int .i64 bsz, .int .i64 bk1, .int .i64 bty, .bool bmk, .int .u64 bnx.toNat] ∧ Below w.heap.size w V) ⟨hfr, g1.alloc _, B.alloc hb1 _⟩ ?_
  clear hfr g1 B c_g1 f_g1 a_g1 d_g1 e_g1 hb1
  intro V0 hV0
  have HV := Lib.hid hV0
  clear hV0
  go_wp2
  go_loopg [8, 9] (m + 1) (fun gg ov i wr => ∃ k : Nat, k ≤ m ∧ gg = m + 1 - k ∧ i = .int .i64 ((k + 1 : Nat) : Int) ∧ Hid (OwnE wr w.heap.size ov (runE p (x :: List.replicate k 0)) ∧ Bx wr w.heap.size 84 #[.int .i64 p, .int .i64 bsz, .int .i64 bk1, .int .i64 bty, .bool bmk, .int .u64 bnx.toNat] ∧ Below w.heap.size w wr))
  case atStart => exact ⟨0, by omega, by omega, rfl, HV⟩
  case round =>
    clear HV
    obtain ⟨k, hk, rfl, rfl, hh⟩ := hrel
    obtain ⟨oy, g1, B⟩ := hh.out
    by_cases hlt : k + 1 ≤ m
    · have w1 : IntKind.i64.wrap ((p : Int) + ((k + 1 : Nat) : Int)) = (p : Int) + ((k + 1 : Nat) : Int) := IntWalk.i64_in _ (by omega)
      have w2 : IntKind.i64.wrap (((k + 1 : Nat) : Int) + 1) = ((k + 1 + 1 : Nat) : Int) := by rw [show ((k + 1 + 1 : Nat) : Int) = ((k + 1 : Nat) : Int) + 1 by omega]; exact IntWalk.i64_in _ (by omega)
      have g0 : decide (((k + 1 : Nat) : Int) ≤ (m : Int)) = true := decide_eq_true (by omega)
      have hne := own_not_bx oy g1 (by decide)
      have hlen : (runE (p : Int) (x :: List.replicate k 0)).length ≤ 100 := by rw [runE_len, List.length_cons, List.length_replicate]; omega
      have c_1 := g1.cell
      generalize hkk : ((k + 1 : Nat) : Int) = kk at *
      go_wp2_with (at_builtin; refine wpList_append (by rfl) rfl rfl rfl Try.underlying59 info_ent rfl (by omega) (by exact own_below oy ((Below.refl _ _).alloc (Nat.le_refl _) _)) (by exact lit_ent ((p : Int) + kk) 0 (by simp)) (by simp [Value.oneCell']) (by omega) (by omega) (by exact B.alloc B.size _) (Nat.le_refl _) ?_; intro v1 w3 o3 B3 g3; have q1 := (g1.alloc _).grown g3 hne)
      have HH := Lib.hid (show OwnE w3 w.heap.size v1 (runE p (x :: List.replicate (k + 1) 0)) ∧ Bx w3 w.heap.size 84 #[.int .i64 p, .int .i64 bsz, .int .i64 bk1, .int .i64 bty, .bool bmk, .int .u64 bnx.toNat] ∧ Below w.heap.size w w3 from ⟨OwnE.of o3 (by rw [runE_zero, ← hkk]; exact eC_snoc _ _ _), q1, B3⟩)
      clear o3 B3 q1 g3
      go_roundg (m + 1 - (k + 1))
      case measure => omega
      case rel => exact ⟨k + 1, by omega, rfl, by rw [← hkk, show ((k + 1 + 1 : Nat) : Int) = ((k + 1 : Nat) : Int) + 1 by omega], HH⟩
    · obtain rfl : k = m := by omega
      have g0 : decide (((k + 1 : Nat) : Int) ≤ (k : Int)) = false := decide_eq_false (by omega)
      have HR := Lib.hid (And.intro oy B)
      clear oy g1 B
      go_wp2
      go_ret2
      exact ⟨_, rfl, HR.out⟩
/-- two lists joined -/
theorem ents_form {w : World} {v : Value} {E : List (Int × UInt64)} (h : Ents w v E) : ∃ A c, v = .slice A E.length c := by obtain ⟨A, c, e, _⟩ := h; exact ⟨A, c, e⟩
set_option maxRecDepth 100000 in
set_option maxHeartbeats 2000000 in
theorem join22_any (lv v1 v2 : Value) (E1 E2 : List (Int × UInt64)) (h1 : E1.length ≤ 50) (h2 : E2.length ≤ 50) (w : World) (hl : Rd w 1 lv 2 [v1, v2]) (hv1 : Ents w v1 E1) (hv2 : Ents w v2 E2) :
    Calls Try.prog 52 #[lv] w fun e w' => ∃ y, e = .returned y ∧ OwnE w' w.heap.size y (E1 ++ E2) ∧ Below w.heap.size w w' := by
  have B : Below w.heap.size w w := Below.refl _ _
  have HL := Lib.hid hl; have HV1 := Lib.hid hv1; have HV2 := Lib.hid hv2
  have ll := Rd.len hl Try.underlying163
  have ll2 : ∀ ty W, (Builtin.len_ #[163] ty #[lv]).run Try.prog W = .ok (.int .i64 2) W := ll
  have i0 : ∀ W, (Instr.indexAt 163 lv (.int .i64 0)).run Try.prog W = .ok (.pointer (some (cellAt lv 0))) W := fun W => by have := Rd.ixN (P := Try.prog) hl Try.underlying163 one_ents (k := 0) (by omega) W; rw [Nat.zero_mul] at this; exact this
  have i1 : ∀ W, (Instr.indexAt 163 lv (.int .i64 1)).run Try.prog W = .ok (.pointer (some (cellAt lv 1))) W := fun W => by have := Rd.ixN (P := Try.prog) hl Try.underlying163 one_ents (k := 1) (by omega) W; rw [Nat.one_mul] at this; exact this
  have HH := Lib.hid (show OwnE w w.heap.size (.slice none 0 0) [] ∧ Below w.heap.size w w from ⟨OwnE.nil _ _, B⟩)
  clear hl hv1 hv2 ll B
  go_enter Try.func52, Try.ntmps52
  go_wp2
  clear ll2
  go_loopg [3, 8] 2 (fun gg ov i wr => ∃ k : Nat, k ≤ 2 ∧ gg = 2 - k ∧ i = .int .i64 k ∧ Hid (OwnE wr w.heap.size ov (if k = 0 then [] else if k = 1 then E1 else E1 ++ E2) ∧ Below w.heap.size w wr))
  case atStart => exact ⟨0, by omega, by omega, rfl, HH⟩
  case round =>
    clear HH
    obtain ⟨k, hk, rfl, rfl, hh⟩ := hrel
    have hk3 : k = 0 ∨ k = 1 ∨ k = 2 := by omega
    clear hk
    rcases hk3 with rfl | rfl | rfl
    · obtain ⟨oy, B⟩ := hh.out
      rw [if_pos rfl] at oy
      clear hh
      have c0 := (HL.out.below B).cell (j := 0) (u := v1) rfl
      have q1 := Rd.below HV1.out B
      go_wp2_with (at_builtin; refine wpList_append (by rfl) rfl rfl rfl Try.underlying59 info_ent rfl (by omega) (by exact oy) (by exact q1) (eC_one _) (by simp; omega) (by simp; omega) (by exact B) (Nat.le_refl _) ?_; intro v3 w3 o3 B3 g3; clear g3)
      have HH := Lib.hid (show OwnE w3 w.heap.size v3 E1 ∧ Below w.heap.size w w3 from ⟨OwnE.of o3 (by simp [eC]), B3⟩)
      clear o3 B3 oy B q1 c0
      go_roundg (2 - 1)
      case measure => omega
      case rel => exact ⟨1, by omega, rfl, by go_num, HH⟩
    · obtain ⟨oy, B⟩ := hh.out
      rw [if_neg (by omega), if_pos rfl] at oy
      clear hh
      have c0 := (HL.out.below B).cell (j := 1) (u := v2) rfl
      have q1 := Rd.below HV2.out B
      go_wp2_with (at_builtin; refine wpList_append (by rfl) rfl rfl rfl Try.underlying59 info_ent rfl (by omega) (by exact oy) (by exact q1) (eC_one _) (by omega) (by omega) (by exact B) (Nat.le_refl _) ?_; intro v3 w3 o3 B3 g3; clear g3)
      have HH := Lib.hid (show OwnE w3 w.heap.size v3 (E1 ++ E2) ∧ Below w.heap.size w w3 from ⟨OwnE.of o3 (by simp [eC]), B3⟩)
      clear o3 B3 oy B q1 c0
      go_roundg (2 - 2)
      case measure => omega
      case rel => exact ⟨2, by omega, rfl, by go_num, HH⟩
    · obtain ⟨oy, B⟩ := hh.out
      rw [if_neg (by omega), if_neg (by omega)] at oy
      have HR := Lib.hid (And.intro oy B)
      clear hh oy B i0 i1
      go_wp2
      go_ret
      exact ⟨_, rfl, HR.out⟩
end Go.Proofs.Ytodbbacmdjcheaa
