/- Models in memory: what is known of them. Contracts of the smallest functions. -/
import Derived.Test.YtgjpohhafmkhcaaT20
import Derived.Test.YtgjpohhafmkhcaaS20
import Derived.Test.YtgjpohhafmkhcaaL20
import Derived.Test.YtgjpohhafmkhcaaU64
set_option linter.unusedVariables false
set_option linter.unusedSimpArgs false
namespace Go.Proofs.Ytgjpohhafmkhcaa
open Go.RowKit L02 L13 L18 L20

theorem size_obj : (Try.prog.info? 72).map (·.size) = some 2 := by kernel_rfl
theorem info_obj : (Try.prog.info? 72).map (fun i => (i.zero, i.size, i.bytes)) = some (some (.agg #[.int .i64 0, .slice none 0 0]), 2, 32) := by kernel_rfl
theorem info_slot : (Try.prog.info? 67).map (fun i => (i.zero, i.size, i.bytes)) = some (some (.agg #[.int .i64 0, .bool false, .int .i64 0]), 3, 24) := by kernel_rfl
theorem size_model : (Try.prog.info? 26).map (·.size) = some 3 := by kernel_rfl

/-- the cells of objects, whose fields are the slices vs -/
def obC : List Ob → List Value → List Value
  | o :: L, x :: vs => i64 o.ty :: x :: obC L vs
  | _, _ => []
theorem obC_len : ∀ {L : List Ob} {vs : List Value}, vs.length = L.length → (obC L vs).length = L.length * 2
  | [], _, _ => rfl
  | o :: L, [], h => by simp at h
  | o :: L, x :: vs, h => by rw [obC, List.length_cons, List.length_cons, obC_len (by simpa using h), List.length_cons]; omega
theorem obC_get : ∀ {L : List Ob} {vs : List Value} {k : Nat} {o : Ob} {x : Value}, L[k]? = some o → vs[k]? = some x → (obC L vs)[k * 2]? = some (i64 o.ty) ∧ (obC L vs)[k * 2 + 1]? = some x
  | [], _, _, _, _, h, _ => by simp at h
  | o :: L, [], _, _, _, _, h => by simp at h
  | o :: L, x :: vs, 0, o', x', h, h' => by simp at h h'; subst h; subst h'; simp [obC]
  | o :: L, x :: vs, k + 1, o', x', h, h' => by
    have := obC_get (L := L) (vs := vs) (k := k) (by simpa using h) (by simpa using h')
    rw [obC, show (k + 1) * 2 = k * 2 + 1 + 1 by omega, show k * 2 + 1 + 1 + 1 = (k * 2 + 1) + 1 + 1 by omega]
    simpa using this
theorem obC_snoc : ∀ {L : List Ob} {vs : List Value} {o : Ob} {x : Value}, vs.length = L.length → obC (L ++ [o]) (vs ++ [x]) = obC L vs ++ [i64 o.ty, x]
  | [], [], _, _, _ => rfl
  | [], x :: vs, _, _, h => by simp at h
  | o :: L, [], _, _, h => by simp at h
  | o :: L, x :: vs, o', x', h => by
    rw [List.cons_append, List.cons_append, obC, obC_snoc (by simpa using h), obC]; rfl
/-- A slice of objects. -/
def Objs (w : World) (v : Value) (L : List Ob) : Prop := ∃ vs : List Value, vs.length = L.length ∧ Rd w 2 v L.length (obC L vs) ∧ ∀ (i : Nat) x o, vs[i]? = some x → L[i]? = some o → Words w x o.fs
/-- .. of the call's own, their fields too, which lie apart -/
def OwnO (w : World) (base : Nat) (v : Value) (L : List Ob) : Prop := ∃ vs : List Value, vs.length = L.length ∧ w.ownsRow base 72 2 v L.length (obC L vs) ∧ (∀ (i : Nat) x o, vs[i]? = some x → L[i]? = some o → OwnW w base 29 x o.fs) ∧
  ∀ (i j : Nat) x y, i ≠ j → vs[i]? = some x → vs[j]? = some y → x.ownBlock = none ∨ x.ownBlock ≠ y.ownBlock
theorem OwnO.rd {w : World} {base : Nat} {v : Value} {L : List Ob} (h : OwnO w base v L) : Objs w v L := by
  obtain ⟨vs, h1, h2, h4, _⟩ := h; exact ⟨vs, h1, Rd.of_own h2, fun i x l h5 h6 => (h4 i x l h5 h6).rd⟩
theorem Objs.below {w w' : World} {v : Value} {L : List Ob} (h : Objs w v L) (hb : Below w.heap.size w w') : Objs w' v L := by
  obtain ⟨vs, h1, h2, h3⟩ := h; exact ⟨vs, h1, h2.below hb, fun i x l h4 h5 => (h3 i x l h4 h5).below hb⟩
theorem OwnO.below {w w' : World} {base : Nat} {v : Value} {L : List Ob} (h : OwnO w base v L) (hb : Below w.heap.size w w') : OwnO w' base v L := by
  obtain ⟨vs, h1, h2, h4, h5⟩ := h; exact ⟨vs, h1, own_below h2 hb, fun i x l h5 h6 => (h4 i x l h5 h6).below hb, h5⟩
theorem OwnO.mono {w : World} {base base' : Nat} {v : Value} {L : List Ob} (h : OwnO w base v L) (hb : base' ≤ base) : OwnO w base' v L := by
  obtain ⟨vs, h1, h2, h4, h5⟩ := h; exact ⟨vs, h1, own_mono h2 hb, fun i x l h5 h6 => own_mono (h4 i x l h5 h6) hb, h5⟩
theorem OwnT.mono {w : World} {base base' : Nat} {v : Value} {L : List (List UInt8)} (h : OwnT w base v L) (hb : base' ≤ base) : OwnT w base' v L := by
  obtain ⟨vs, h1, h2, h4⟩ := h; exact ⟨vs, h1, own_mono h2 hb, fun i x l h5 h6 => own_mono (h4 i x l h5 h6) hb⟩
theorem OwnO.nil (w : World) (base : Nat) : OwnO w base (.slice none 0 0) [] := ⟨[], rfl, World.ownsRow_nil w base _ 2, fun i x l h => by simp at h, fun i j x y _ h => by simp at h⟩
theorem Objs.nil (w : World) : Objs w (.slice none 0 0) [] := (OwnO.nil w 0).rd
theorem Typs.nil (w : World) : Typs w (.slice none 0 0) [] := (OwnT.nil w 0).rd
theorem Slots.nil (w : World) : Slots w (.slice none 0 0) [] := Rd.nil w 3
theorem Objs.len {w : World} {v : Value} {L : List Ob} (h : Objs w v L) : ∀ ty W, (Builtin.len_ #[23] ty #[v]).run Try.prog W = .ok (.int .i64 (L.length : Int)) W := by
  obtain ⟨vs, h1, h2, h3⟩ := h; exact Rd.len h2 Try.underlying23
theorem Objs.len_le {w : World} {v : Value} {L : List Ob} (h : Objs w v L) : L.length ≤ 9223372036854775807 := by
  obtain ⟨vs, h1, h2, h3⟩ := h; exact Rd.len_le h2
theorem Slots.len {w : World} {v : Value} {L : List Sl} (h : Slots w v L) : ∀ ty W, (Builtin.len_ #[24] ty #[v]).run Try.prog W = .ok (.int .i64 (L.length : Int)) W := Rd.len h Try.underlying24
theorem Slots.len_le {w : World} {v : Value} {L : List Sl} (h : Slots w v L) : L.length ≤ 9223372036854775807 := Rd.len_le h
theorem Objs.at_ {w : World} {v : Value} {L : List Ob} (h : Objs w v L) {k : Nat} (hk : k < L.length) :
    ∃ b q x o, (∀ W, (Instr.indexAt 23 v (.int .i64 (k : Int))).run Try.prog W = .ok (.pointer (some ⟨b, q, none⟩)) W) ∧ w.cell? ⟨b, q, none⟩ = some (.int .i64 o.ty) ∧ w.cell? ⟨b, q + 1, none⟩ = some x ∧ Hid (L[k]? = some o) ∧ Hid (Words w x o.fs) ∧ b < w.heap.size := by
  obtain ⟨vs, h1, h2, h3⟩ := h
  have hv : vs[k]? = some vs[k] := List.getElem?_eq_getElem (by omega)
  have hl : L[k]? = some L[k] := List.getElem?_eq_getElem hk
  have hix := fun W => Rd.ixN h2 Try.underlying23 size_obj hk W
  obtain ⟨b, q, c, rfl, hb, hc, hcell⟩ := Rd.form h2 (by omega)
  obtain ⟨c0, c1⟩ := obC_get hl hv
  exact ⟨b, q + k * 2, vs[k], L[k], fun W => hix W, hcell _ _ c0, hcell _ _ c1, Lib.hid hl, Lib.hid (h3 k _ _ hv hl), hb⟩
theorem Words.oneCell {w : World} {x : Value} {l : List UInt64} (h : Words w x l) : x.oneCell' = true := by
  obtain ⟨A, c, rfl, _⟩ := h; rfl
theorem Typs.oneCell {w : World} {x : Value} {l : List (List UInt8)} (h : Typs w x l) : x.oneCell' = true := by
  obtain ⟨_, _, ⟨A, c, rfl, _⟩, _⟩ := h; rfl
theorem Objs.oneCell {w : World} {x : Value} {l : List Ob} (h : Objs w x l) : x.oneCell' = true := by
  obtain ⟨_, _, ⟨A, c, rfl, _⟩, _⟩ := h; rfl
theorem Slots.oneCell {w : World} {x : Value} {l : List Sl} (h : Slots w x l) : x.oneCell' = true := by
  obtain ⟨A, c, rfl, _⟩ := h; rfl

/-- A model: three slices. -/
structure Mod (w : World) (tv ov sv : Value) (m : Mo) : Prop where
  t : Typs w tv m.types
  o : Objs w ov m.objs
  s : Slots w sv m.slots
structure OwnM (w : World) (base E : Nat) (tv ov sv : Value) (m : Mo) : Prop where
  t : OwnT w base tv m.types
  o : OwnO w base ov m.objs
  s : OwnS w base E sv m.slots
theorem Mod.below {w w' : World} {tv ov sv : Value} {m : Mo} (h : Mod w tv ov sv m) (hb : Below w.heap.size w w') : Mod w' tv ov sv m := ⟨h.t.below hb, h.o.below hb, h.s.below hb⟩
theorem OwnM.below {w w' : World} {base E : Nat} {tv ov sv : Value} {m : Mo} (h : OwnM w base E tv ov sv m) (hb : Below w.heap.size w w') : OwnM w' base E tv ov sv m := ⟨h.t.below hb, h.o.below hb, h.s.below hb⟩
theorem OwnM.rd {w : World} {base E : Nat} {tv ov sv : Value} {m : Mo} (h : OwnM w base E tv ov sv m) : Mod w tv ov sv m := ⟨h.t.rd, h.o.rd, h.s.rd⟩
theorem OwnM.mono {w : World} {base base' E : Nat} {tv ov sv : Value} {m : Mo} (h : OwnM w base E tv ov sv m) (hb : base' ≤ base) : OwnM w base' E tv ov sv m := ⟨h.t.mono hb, h.o.mono hb, own_mono h.s hb⟩
theorem Mod.nil (w : World) : Mod w (.slice none 0 0) (.slice none 0 0) (.slice none 0 0) .nil := ⟨Typs.nil w, Objs.nil w, Slots.nil w⟩

theorem float_iff (v : UInt64) : ((v.toNat : Int) / 4503599627370496 % 2048 = 2047 ∧ (v.toNat : Int) * 4096 % 18446744073709551616 ≠ 0 ∧ v.toNat ≠ 9221120237041090561) ↔ ¬ FloatOk v := by
  have hl := v.toNat_lt
  unfold FloatOk
  omega
end Go.Proofs.Ytgjpohhafmkhcaa
