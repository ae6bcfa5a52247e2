/- Contracts of the functions that the laws 'N' reach, part 2. No condition. -/
import Derived.Test.YteejianjjpdimaaMNa
set_option linter.unusedVariables false
set_option linter.unusedSimpArgs false
namespace Go.Proofs.Yteejianjjpdimaa.L20
open L02 L13 L18
structure Ob where
  ty : Int
  fs : List UInt64
deriving DecidableEq
structure Mo where
  types : List (List UInt8)
  objs : List Ob
  slots : List Sl
deriving DecidableEq
def Mo.nil : Mo := ⟨[], [], []⟩
def no : UInt64 := 9221120237041090561
def FloatOk (v : UInt64) : Prop := v.toNat = 9221120237041090561 ∨ v.toNat % 9223372036854775808 ≤ 9218868437227405312
instance (v : UInt64) : Decidable (FloatOk v) := inferInstanceAs (Decidable (_ ∨ _))
/-- a field of the kind k may hold v, with n objects -/
def FdOk (n : Nat) (k : UInt8) (v : UInt64) : Prop := (k.toNat = 2 → FloatOk v) ∧ (k.toNat = 3 → v.toNat ≤ n)
instance (n : Nat) (k : UInt8) (v : UInt64) : Decidable (FdOk n k v) := inferInstanceAs (Decidable (_ ∧ _))
def ty (T : List (List UInt8)) (o : Ob) : List UInt8 := T.getD o.ty.toNat []
def ObOk (T : List (List UInt8)) (n : Nat) (o : Ob) : Prop := (0 ≤ o.ty ∧ o.ty < T.length) ∧ o.fs.length = (ty T o).length ∧ ∀ i, i < o.fs.length → FdOk n ((ty T o).getD i 0) (o.fs.getD i 0)
instance (T : List (List UInt8)) (n : Nat) (o : Ob) : Decidable (ObOk T n o) := inferInstanceAs (Decidable (_ ∧ _ ∧ ∀ i, i < o.fs.length → _))
def SlOk (n : Nat) (s : Sl) : Prop := (0 ≤ s.gen ∧ s.gen ≤ 2147483647) ∧ (s.used = false → s.at_ = 0) ∧ (s.used = true → 0 < s.gen ∧ 0 ≤ s.at_ ∧ s.at_ < n)
instance (n : Nat) (s : Sl) : Decidable (SlOk n s) := inferInstanceAs (Decidable (_ ∧ _ ∧ _))
def MoOk (m : Mo) : Prop := m.slots.length = 16 ∧ (∀ t ∈ m.types, kErr t = 0) ∧ (∀ o ∈ m.objs, ObOk m.types m.objs.length o) ∧ ∀ s ∈ m.slots, SlOk m.objs.length s
instance (m : Mo) : Decidable (MoOk m) := inferInstanceAs (Decidable (_ ∧ _ ∧ _ ∧ _))
def chk (m : Mo) : Int := if 8 < m.types.length ∨ 960 < m.objs.length then 4 else if MoOk m then 0 else 8
/-- more than the statements consider -/
def Great (m : Mo) : Prop := (40 < m.objs.length ∧ m.objs.length < 960) ∨ 962 < m.objs.length ∨ 20 < m.types.length ∨ 30 < m.slots.length ∨ (∃ t ∈ m.types, 20 < t.length) ∨ ∃ o ∈ m.objs, 20 < o.fs.length
instance (m : Mo) : Decidable (Great m) := inferInstanceAs (Decidable (_ ∨ _ ∨ _ ∨ _ ∨ _ ∨ _))
def asked (m : Mo) (sl g : Int) : Int := if chk m = 0 then rightErr m.slots sl g else chk m
def own (m : Mo) (sl : Int) : Nat := (m.slots.getD sl.toNat .none).at_.toNat
def ob (m : Mo) (k : Nat) : Ob := m.objs.getD k ⟨0, []⟩
def kinds (m : Mo) (sl : Int) : List UInt8 := ty m.types (ob m (own m sl))
/-- the error of a field -/
def kErrF (m : Mo) (sl g n : Int) : Int := if asked m sl g = 0 then (if 0 ≤ n ∧ n < (kinds m sl).length then 0 else 2) else asked m sl g
def kind (m : Mo) (sl g n : Int) : UInt8 := if kErrF m sl g n = 0 then (kinds m sl).getD n.toNat 0 else 0
def fld (m : Mo) (sl n : Int) : UInt64 := (ob m (own m sl)).fs.getD n.toNat 0
def putF (m : Mo) (k i : Nat) (x : UInt64) : Mo := ⟨m.types, m.objs.set k ⟨(ob m k).ty, (ob m k).fs.set i x⟩, m.slots⟩
def put (m : Mo) (sl n : Int) (x : UInt64) : Mo := putF m (own m sl) n.toNat x
def getE (m : Mo) (sl g n : Int) : Int := if kErrF m sl g n = 0 then (if (kind m sl g n).toNat = 3 then 42 else 0) else kErrF m sl g n
def getV (m : Mo) (sl g n : Int) : UInt64 := if getE m sl g n = 0 then fld m sl n else 0
def setV (k : UInt8) (x : UInt64) : UInt64 := if k.toNat = 2 ∧ ¬ FloatOk x then no else x
def setM (m : Mo) (sl g n : Int) (x : UInt64) : Mo := if getE m sl g n = 0 then put m sl n (setV (kind m sl g n) x) else .nil
/-- the handle that is referred to, or none -/
def refE (m : Mo) (sl g n : Int) (tq : Option (Int × Int)) : Int := if kErrF m sl g n = 0 then (if (kind m sl g n).toNat = 3 then (match tq with | none => 0 | some t => rightErr m.slots t.1 t.2) else 42) else kErrF m sl g n
def refM (m : Mo) (sl g n : Int) (tq : Option (Int × Int)) : Mo := if refE m sl g n tq = 0 then put m sl n (match tq with | none => 0 | some t => UInt64.ofNat (own m t.1 + 1)) else .nil
/-- a new slot -/
def givS (m : Mo) (n : Int) (k : Nat) : List Sl := m.slots.set k ⟨(m.slots.getD k .none).gen + 1, true, n⟩
def rootE (m : Mo) (sl g n : Int) : Int := if kErrF m sl g n = 0 then (if (kind m sl g n).toNat = 3 then (if fld m sl n = 0 then 6 else if next m.slots = none then 23 else 0) else 42) else kErrF m sl g n
def rootM (m : Mo) (sl g n : Int) : Mo := if rootE m sl g n = 0 then ⟨m.types, m.objs, givS m ((fld m sl n).toNat - 1 : Nat) ((next m.slots).getD 0)⟩ else .nil
def rootS (m : Mo) (sl g n : Int) : Int := if rootE m sl g n = 0 then ((next m.slots).getD 0 : Nat) else 0
def rootG (m : Mo) (sl g n : Int) : Int := if rootE m sl g n = 0 then (m.slots.getD ((next m.slots).getD 0) .none).gen + 1 else 0
theorem chk_ok {m : Mo} (h : chk m = 0) : m.types.length ≤ 8 ∧ m.objs.length ≤ 960 ∧ MoOk m := by
  unfold chk at h
  split at h
  · omega
  · split at h
    · exact ⟨by omega, by omega, by assumption⟩
    · omega
theorem chk_many {m : Mo} (h : 8 < m.types.length ∨ 960 < m.objs.length) : chk m = 4 := if_pos h
theorem chk_bad {m : Mo} (h : ¬ (8 < m.types.length ∨ 960 < m.objs.length)) (h2 : ¬ MoOk m) : chk m = 8 := by rw [chk, if_neg h, if_neg h2]
theorem chk_zero {m : Mo} (h : ¬ (8 < m.types.length ∨ 960 < m.objs.length)) (h2 : MoOk m) : chk m = 0 := by rw [chk, if_neg h, if_pos h2]
theorem no_type {m : Mo} {k : Nat} {t : List UInt8} (h : m.types[k]? = some t) (hb : kErr t ≠ 0) : ¬ MoOk m := fun hm => hb (hm.2.1 t (List.mem_of_getElem? h))
theorem no_obj {m : Mo} {k : Nat} {o : Ob} (h : m.objs[k]? = some o) (hb : ¬ ObOk m.types m.objs.length o) : ¬ MoOk m := fun hm => hb (hm.2.2.1 o (List.mem_of_getElem? h))
theorem no_slot {m : Mo} {k : Nat} {s : Sl} (h : m.slots[k]? = some s) (hb : ¬ SlOk m.objs.length s) : ¬ MoOk m := fun hm => hb (hm.2.2.2 s (List.mem_of_getElem? h))
/-- a right handle -/
theorem right_ok {L : List Sl} {sl g : Int} (h : rightErr L sl g = 0) : ∃ (k : Nat) (s : Sl), sl = (k : Int) ∧ k < L.length ∧ L[k]? = some s ∧ s.used = true ∧ s.gen = g := by
  unfold rightErr at h
  split at h
  · rename_i h1
    split at h
    · rename_i h2
      obtain ⟨k, rfl⟩ := Int.eq_ofNat_of_zero_le h1.1
      have hk : k < L.length := by omega
      have hs : L[k]? = some L[k] := List.getElem?_eq_getElem hk
      have hgd : L.getD (k : Int).toNat .none = L[k] := by simp [List.getD_eq_getElem?_getD, hs]
      rw [hgd] at h2
      exact ⟨k, _, rfl, hk, hs, h2.1, h2.2⟩
    · omega
  · omega
/-- what is known behind a right handle -/
theorem asked_ok {m : Mo} {sl g : Int} (h : asked m sl g = 0) : chk m = 0 ∧ rightErr m.slots sl g = 0 ∧ ∃ (k : Nat) (s : Sl) (n : Nat) (o : Ob) (t : List UInt8), sl = (k : Int) ∧ k < 16 ∧ m.slots[k]? = some s ∧ s.used = true ∧ s.gen = g ∧ SlOk m.objs.length s ∧ s.at_ = (n : Int) ∧ own m sl = n ∧
    m.objs[n]? = some o ∧ ob m n = o ∧ ObOk m.types m.objs.length o ∧ m.types[o.ty.toNat]? = some t ∧ ty m.types o = t ∧ kinds m sl = t ∧ o.fs.length = t.length := by
  unfold asked at h
  split at h
  · rename_i h0
    obtain ⟨h1, h2, h3⟩ := chk_ok h0
    obtain ⟨k, s, rfl, hk, hs, hu, hg⟩ := right_ok h
    have hso := h3.2.2.2 s (List.mem_of_getElem? hs)
    obtain ⟨a1, a2, a3⟩ := hso.2.2 hu
    obtain ⟨n, hn⟩ := Int.eq_ofNat_of_zero_le a2
    have hnl : n < m.objs.length := by omega
    have ho : m.objs[n]? = some m.objs[n] := List.getElem?_eq_getElem hnl
    have hoo := h3.2.2.1 _ (List.mem_of_getElem? ho)
    have hob : ob m n = m.objs[n] := by simp [ob, List.getD_eq_getElem?_getD, ho]
    have hown : own m (k : Int) = n := by simp [own, List.getD_eq_getElem?_getD, hs, hn]
    have hty : m.objs[n].ty.toNat < m.types.length := by have := hoo.1; omega
    have ht : m.types[m.objs[n].ty.toNat]? = some m.types[m.objs[n].ty.toNat] := List.getElem?_eq_getElem hty
    have htt : ty m.types m.objs[n] = m.types[m.objs[n].ty.toNat] := by simp [ty, List.getD_eq_getElem?_getD, ht]
    exact ⟨h0, h, k, s, n, _, _, rfl, by rw [h3.1] at hk; exact hk, hs, hu, hg, hso, hn, hown, ho, hob, hoo, ht, htt, by rw [kinds, hown, hob, htt], by rw [hoo.2.1, htt]⟩
  · rename_i h0; exact absurd h h0
theorem asked_no {m : Mo} {sl g : Int} (h : chk m ≠ 0) : asked m sl g = chk m := if_neg h
theorem asked_eq {m : Mo} {sl g : Int} (h : chk m = 0) : asked m sl g = rightErr m.slots sl g := if_pos h
theorem kErrF_no {m : Mo} {sl g n : Int} (h : asked m sl g ≠ 0) : kErrF m sl g n = asked m sl g := if_neg h
theorem kErrF_arg {m : Mo} {sl g n : Int} (h : asked m sl g = 0) (hn : ¬ (0 ≤ n ∧ n < (kinds m sl).length)) : kErrF m sl g n = 2 := by rw [kErrF, if_pos h, if_neg hn]
theorem kErrF_ok {m : Mo} {sl g n : Int} (h : asked m sl g = 0) (hn : 0 ≤ n ∧ n < (kinds m sl).length) : kErrF m sl g n = 0 := by rw [kErrF, if_pos h, if_pos hn]
theorem kErrF_inv {m : Mo} {sl g n : Int} (h : kErrF m sl g n = 0) : asked m sl g = 0 ∧ 0 ≤ n ∧ n < (kinds m sl).length := by
  unfold kErrF at h
  split at h
  · split at h
    · rename_i h1 h2; exact ⟨h1, h2⟩
    · omega
  · rename_i h1; exact absurd h h1
end Go.Proofs.Yteejianjjpdimaa.L20
namespace Go.Proofs.Yteejianjjpdimaa
open Go.RowKit
theorem wrap_u64 (n : Int) : IntKind.u64.wrap n = n % 18446744073709551616 := by
  simp [IntKind.wrap, IntKind.signed, IntKind.bits]
theorem toNat_lt (a : UInt64) : a.toNat < 18446744073709551616 := a.toNat_lt
theorem bits_and_u64n {a b : Nat} (ha : a < 18446744073709551616) (hb : b < 18446744073709551616) : bits .and .u64 (a : Int) (b : Int) = ((a &&& b : Nat) : Int) := by
  show IntKind.u64.wrap ((BitVec.ofInt 64 (a : Int) &&& BitVec.ofInt 64 (b : Int)).toNat : Int) = _
  rw [BitVec.toNat_and, BitVec.ofInt_natCast, BitVec.ofInt_natCast, BitVec.toNat_ofNat, BitVec.toNat_ofNat, Nat.mod_eq_of_lt ha, Nat.mod_eq_of_lt hb, wrap_u64]
  have : a &&& b < 2 ^ 64 := Nat.and_lt_two_pow _ (by omega)
  omega
theorem and_int {a : Int} (k : Nat) (h0 : 0 ≤ a) (ha : a < 18446744073709551616) (m : Int) (hm : m = ((2 ^ k - 1 : Nat) : Int)) (hl : m < 18446744073709551616) : bits .and .u64 a m = a % ((2 ^ k : Nat) : Int) := by
  obtain ⟨n, rfl⟩ := Int.eq_ofNat_of_zero_le h0
  subst hm
  rw [bits_and_u64n (by omega) (by omega), Nat.and_two_pow_sub_one_eq_mod]
  exact Int.natCast_emod n (2 ^ k)
end Go.Proofs.Yteejianjjpdimaa
namespace Go.Proofs.Yteejianjjpdimaa
open Go.RowKit L02 L13 L18 L20
theorem size_obj : (Try.prog.info? 45).map (·.size) = some 2 := by kernel_rfl
theorem info_obj : (Try.prog.info? 45).map (fun i => (i.zero, i.size, i.bytes)) = some (some (.agg #[.int .i64 0, .slice none 0 0]), 2, 32) := by kernel_rfl
theorem info_slot : (Try.prog.info? 48).map (fun i => (i.zero, i.size, i.bytes)) = some (some (.agg #[.int .i64 0, .bool false, .int .i64 0]), 3, 24) := by kernel_rfl
/-- the cells of objects, whose fields are the slices vs -/
def obC : List Ob → List Value → List Value
  | o :: L, x :: vs => i64 o.ty :: x :: obC L vs
  | _, _ => []
theorem obC_len : ∀ {L : List Ob} {vs : List Value}, vs.length = L.length → (obC L vs).length = L.length * 2
  | [], _, _ => rfl
  | o :: L, [], h => by simp at h
  | o :: L, x :: vs, h => by rw [obC, List.length_cons, List.length_cons, obC_len (by simpa using h), List.length_cons]; omega
theorem obC_get : ∀ {L : List Ob} {vs : List Value} {k : Nat} {o : Ob} {x : Value}, L[k]? = some o → vs[k]? = some x → (obC L vs)[k * 2]? = some (i64 o.ty) ∧ (obC L vs)[k * 2 + 1]? = some x
  | [], _, _, _, _, h, _ => by simp at h
  | o :: L, [], _, _, _, _, h => by simp at h
  | o :: L, x :: vs, 0, o', x', h, h' => by simp at h h'; subst h; subst h'; simp [obC]
  | o :: L, x :: vs, k + 1, o', x', h, h' => by
    have := obC_get (L := L) (vs := vs) (k := k) (by simpa using h) (by simpa using h')
    rw [obC, show (k + 1) * 2 = k * 2 + 1 + 1 by omega, show k * 2 + 1 + 1 + 1 = (k * 2 + 1) + 1 + 1 by omega]
    simpa using this
theorem obC_snoc : ∀ {L : List Ob} {vs : List Value} {o : Ob} {x : Value}, vs.length = L.length → obC (L ++ [o]) (vs ++ [x]) = obC L vs ++ [i64 o.ty, x]
  | [], [], _, _, _ => rfl
  | [], x :: vs, _, _, h => by simp at h
  | o :: L, [], _, _, h => by simp at h
  | o :: L, x :: vs, o', x', h => by
    rw [List.cons_append, List.cons_append, obC, obC_snoc (by simpa using h), obC]; rfl
/-- A slice of objects. -/
def Objs (w : World) (v : Value) (L : List Ob) : Prop := ∃ vs : List Value, vs.length = L.length ∧ Rd w 2 v L.length (obC L vs) ∧ ∀ (i : Nat) x o, vs[i]? = some x → L[i]? = some o → Words w x o.fs
/-- .. of the call's own, their fields too, which lie apart -/
def OwnO (w : World) (base : Nat) (v : Value) (L : List Ob) : Prop := ∃ vs : List Value, vs.length = L.length ∧ w.ownsRow base 45 2 v L.length (obC L vs) ∧ (∀ (i : Nat) x o, vs[i]? = some x → L[i]? = some o → OwnW w base 46 x o.fs) ∧
  ∀ (i j : Nat) x y, i ≠ j → vs[i]? = some x → vs[j]? = some y → x.ownBlock = none ∨ x.ownBlock ≠ y.ownBlock
theorem OwnO.rd {w : World} {base : Nat} {v : Value} {L : List Ob} (h : OwnO w base v L) : Objs w v L := by
  obtain ⟨vs, h1, h2, h4, _⟩ := h; exact ⟨vs, h1, Rd.of_own h2, fun i x l h5 h6 => (h4 i x l h5 h6).rd⟩
theorem Objs.below {w w' : World} {v : Value} {L : List Ob} (h : Objs w v L) (hb : Below w.heap.size w w') : Objs w' v L := by
  obtain ⟨vs, h1, h2, h3⟩ := h; exact ⟨vs, h1, h2.below hb, fun i x l h4 h5 => (h3 i x l h4 h5).below hb⟩
theorem OwnO.below {w w' : World} {base : Nat} {v : Value} {L : List Ob} (h : OwnO w base v L) (hb : Below w.heap.size w w') : OwnO w' base v L := by
  obtain ⟨vs, h1, h2, h4, h5⟩ := h; exact ⟨vs, h1, own_below h2 hb, fun i x l h5 h6 => (h4 i x l h5 h6).below hb, h5⟩
theorem OwnO.mono {w : World} {base base' : Nat} {v : Value} {L : List Ob} (h : OwnO w base v L) (hb : base' ≤ base) : OwnO w base' v L := by
  obtain ⟨vs, h1, h2, h4, h5⟩ := h; exact ⟨vs, h1, own_mono h2 hb, fun i x l h5 h6 => own_mono (h4 i x l h5 h6) hb, h5⟩
theorem OwnT.mono {w : World} {base base' : Nat} {v : Value} {L : List (List UInt8)} (h : OwnT w base v L) (hb : base' ≤ base) : OwnT w base' v L := by
  obtain ⟨vs, h1, h2, h4⟩ := h; exact ⟨vs, h1, own_mono h2 hb, fun i x l h5 h6 => own_mono (h4 i x l h5 h6) hb⟩
theorem OwnO.nil (w : World) (base : Nat) : OwnO w base (.slice none 0 0) [] := ⟨[], rfl, World.ownsRow_nil w base _ 2, fun i x l h => by simp at h, fun i j x y _ h => by simp at h⟩
theorem Objs.nil (w : World) : Objs w (.slice none 0 0) [] := (OwnO.nil w 0).rd
theorem Typs.nil (w : World) : Typs w (.slice none 0 0) [] := (OwnT.nil w 0).rd
theorem Slots.nil (w : World) : Slots w (.slice none 0 0) [] := Rd.nil w 3
theorem Objs.len {w : World} {v : Value} {L : List Ob} (h : Objs w v L) : ∀ ty W, (Builtin.len_ #[23] ty #[v]).run Try.prog W = .ok (.int .i64 (L.length : Int)) W := by
  obtain ⟨vs, h1, h2, h3⟩ := h; exact Rd.len h2 Try.underlying23
theorem Objs.len_le {w : World} {v : Value} {L : List Ob} (h : Objs w v L) : L.length ≤ 9223372036854775807 := by
  obtain ⟨vs, h1, h2, h3⟩ := h; exact Rd.len_le h2
theorem Slots.len {w : World} {v : Value} {L : List Sl} (h : Slots w v L) : ∀ ty W, (Builtin.len_ #[24] ty #[v]).run Try.prog W = .ok (.int .i64 (L.length : Int)) W := Rd.len h Try.underlying24
theorem Slots.len_le {w : World} {v : Value} {L : List Sl} (h : Slots w v L) : L.length ≤ 9223372036854775807 := Rd.len_le h
theorem Objs.at_ {w : World} {v : Value} {L : List Ob} (h : Objs w v L) {k : Nat} (hk : k < L.length) :
    ∃ b q x o, (∀ W, (Instr.indexAt 23 v (.int .i64 (k : Int))).run Try.prog W = .ok (.pointer (some ⟨b, q, none⟩)) W) ∧ w.cell? ⟨b, q, none⟩ = some (.int .i64 o.ty) ∧ w.cell? ⟨b, q + 1, none⟩ = some x ∧ Hid (L[k]? = some o) ∧ Hid (Words w x o.fs) ∧ b < w.heap.size := by
  obtain ⟨vs, h1, h2, h3⟩ := h
  have hv : vs[k]? = some vs[k] := List.getElem?_eq_getElem (by omega)
  have hl : L[k]? = some L[k] := List.getElem?_eq_getElem hk
  have hix := fun W => Rd.ixN h2 Try.underlying23 size_obj hk W
  obtain ⟨b, q, c, rfl, hb, hc, hcell⟩ := Rd.form h2 (by omega)
  obtain ⟨c0, c1⟩ := obC_get hl hv
  exact ⟨b, q + k * 2, vs[k], L[k], fun W => hix W, hcell _ _ c0, hcell _ _ c1, Lib.hid hl, Lib.hid (h3 k _ _ hv hl), hb⟩
theorem Words.oneCell {w : World} {x : Value} {l : List UInt64} (h : Words w x l) : x.oneCell' = true := by
  obtain ⟨A, c, rfl, _⟩ := h; rfl
theorem Typs.oneCell {w : World} {x : Value} {l : List (List UInt8)} (h : Typs w x l) : x.oneCell' = true := by
  obtain ⟨_, _, ⟨A, c, rfl, _⟩, _⟩ := h; rfl
theorem Objs.oneCell {w : World} {x : Value} {l : List Ob} (h : Objs w x l) : x.oneCell' = true := by
  obtain ⟨_, _, ⟨A, c, rfl, _⟩, _⟩ := h; rfl
theorem Slots.oneCell {w : World} {x : Value} {l : List Sl} (h : Slots w x l) : x.oneCell' = true := by
  obtain ⟨A, c, rfl, _⟩ := h; rfl
/-- A model: three slices. -/
structure Mod (w : World) (tv ov sv : Value) (m : Mo) : Prop where
  t : Typs w tv m.types
  o : Objs w ov m.objs
  s : Slots w sv m.slots
structure OwnM (w : World) (base E : Nat) (tv ov sv : Value) (m : Mo) : Prop where
  t : OwnT w base tv m.types
  o : OwnO w base ov m.objs
  s : OwnS w base E sv m.slots
theorem Mod.below {w w' : World} {tv ov sv : Value} {m : Mo} (h : Mod w tv ov sv m) (hb : Below w.heap.size w w') : Mod w' tv ov sv m := ⟨h.t.below hb, h.o.below hb, h.s.below hb⟩
theorem OwnM.below {w w' : World} {base E : Nat} {tv ov sv : Value} {m : Mo} (h : OwnM w base E tv ov sv m) (hb : Below w.heap.size w w') : OwnM w' base E tv ov sv m := ⟨h.t.below hb, h.o.below hb, h.s.below hb⟩
theorem OwnM.rd {w : World} {base E : Nat} {tv ov sv : Value} {m : Mo} (h : OwnM w base E tv ov sv m) : Mod w tv ov sv m := ⟨h.t.rd, h.o.rd, h.s.rd⟩
theorem OwnM.mono {w : World} {base base' E : Nat} {tv ov sv : Value} {m : Mo} (h : OwnM w base E tv ov sv m) (hb : base' ≤ base) : OwnM w base' E tv ov sv m := ⟨h.t.mono hb, h.o.mono hb, own_mono h.s hb⟩
theorem Mod.nil (w : World) : Mod w (.slice none 0 0) (.slice none 0 0) (.slice none 0 0) .nil := ⟨Typs.nil w, Objs.nil w, Slots.nil w⟩
end Go.Proofs.Yteejianjjpdimaa
namespace Go.Proofs.Yteejianjjpdimaa
open Go.RowKit Go.ChangeShapes Go.WideShapes Go.ChangeAt Go.Joins Go.Deep L18 L20
section
variable {H : Type} {enc : TypeId × Value → H} {P : Program} {w : World} {base : Nat} {held : Bool} {r : Reach} {b0 : Nat}
theorem words_of {spare : Nat → Bool} {t e : TypeId} {fuel : Nat} {v : Value} {y : DataW H × List MemPlace} (ht : P.underlying t = some (.slice e)) (he : P.underlying e = some (.int .u64)) (hc : P.cellsOf e = 1) (hf : DataW.trod enc P w base spare held fuel t [v] = some y) : ∃ l, Words w v l := by
  rcases open_ints ht he hc hf with ⟨hcs, _⟩ | ⟨x, len, cap, zs, hcs, _, hl, hm, hz, _, hcell, hwz⟩
  · simp at hcs; subst hcs
    exact ⟨[], Words.nil w⟩
  · simp at hcs; subst hcs
    have hlz : len ≤ zs.length := by rw [hz]; split <;> omega
    obtain ⟨l, h1, h2⟩ := ex_words (zs.take len) (fun n hn => hwz n (List.mem_of_mem_take hn))
    have hll : l.length = len := by rw [← h2, List.length_take]; omega
    refine ⟨l, ?_⟩
    unfold Words
    rw [hll, ← h1]
    refine ⟨_, cap, rfl, hl, by simpa [maxLen] using hm, by rw [List.length_map, List.length_take]; omega, fun h => (by cases h), fun hn ad e => ?_⟩
    cases e
    obtain ⟨b, o, s⟩ := x
    have hc0 := hcell 0 (by omega)
    have hsp : s = none := by
      have := World.cell?_spot hc0
      simpa [Addr.add] using this
    subst hsp
    refine ⟨rfl, World.block_lt_of_cell? w _ hc0, fun j u hu => ?_⟩
    have hj : j < len ∧ j < zs.length := by
      have := List.getElem?_eq_some_iff.1 hu
      obtain ⟨h, _⟩ := this
      rw [List.length_map, List.length_take] at h
      omega
    have := hcell j hj.2
    rw [show ((⟨b, o, none⟩ : Addr).add j) = ⟨b, o + j, none⟩ by unfold Addr.add; split <;> simp_all] at this
    rw [this]
    rw [List.getElem?_map, List.getElem?_take, if_pos hj.1, List.getElem?_eq_getElem hj.2] at hu
    simp at hu
    rw [← hu, List.getD_eq_getElem?_getD, List.getElem?_eq_getElem hj.2]; rfl
theorem byts_of {spare : Nat → Bool} {t e : TypeId} {fuel : Nat} {v : Value} {y : DataW H × List MemPlace} (ht : P.underlying t = some (.slice e)) (he : P.underlying e = some (.int .u8)) (hc : P.cellsOf e = 1) (hf : DataW.trod enc P w base spare held fuel t [v] = some y) : ∃ l : List UInt8, Byts w v l := by
  rcases open_ints ht he hc hf with ⟨hcs, _⟩ | ⟨x, len, cap, zs, hcs, _, hl, hm, hz, _, hcell, hwz⟩
  · simp at hcs; subst hcs
    exact ⟨[], Byts.nil w⟩
  · simp at hcs; subst hcs
    have hlz : len ≤ zs.length := by rw [hz]; split <;> omega
    obtain ⟨l, h1, h2⟩ := ex_byts (zs.take len) (fun n hn => hwz n (List.mem_of_mem_take hn))
    have hll : l.length = len := by rw [← h2, List.length_take]; omega
    refine ⟨l, ?_⟩
    unfold Byts
    rw [hll, show l.map u8 = l.map (fun x : UInt8 => Value.int .u8 x.toNat) from rfl, ← h1]
    refine ⟨_, cap, rfl, hl, by simpa [maxLen] using hm, by rw [List.length_map, List.length_take]; omega, fun h => (by cases h), fun hn ad e => ?_⟩
    cases e
    obtain ⟨b, o, s⟩ := x
    have hc0 := hcell 0 (by omega)
    have hsp : s = none := by
      have := World.cell?_spot hc0
      simpa [Addr.add] using this
    subst hsp
    refine ⟨rfl, World.block_lt_of_cell? w _ hc0, fun j u hu => ?_⟩
    have hj : j < len ∧ j < zs.length := by
      have := List.getElem?_eq_some_iff.1 hu
      obtain ⟨h, _⟩ := this
      rw [List.length_map, List.length_take] at h
      omega
    have := hcell j hj.2
    rw [show ((⟨b, o, none⟩ : Addr).add j) = ⟨b, o + j, none⟩ by unfold Addr.add; split <;> simp_all] at this
    rw [this]
    rw [List.getElem?_map, List.getElem?_take, if_pos hj.1, List.getElem?_eq_getElem hj.2] at hu
    simp at hu
    rw [← hu, List.getD_eq_getElem?_getD, List.getElem?_eq_getElem hj.2]; rfl
theorem typs_of {spare : Nat → Bool} {t e q : TypeId} {fuel : Nat} {v : Value} {y : DataW H × List MemPlace} (ht : P.underlying t = some (.slice e)) (he : P.underlying e = some (.slice q)) (hq : P.underlying q = some (.int .u8)) (ce : P.cellsOf e = 1) (cq : P.cellsOf q = 1)
    (hf : DataW.trod enc P w base spare held fuel t [v] = some y) : ∃ L, Typs w v L := by
  rcases open_slice1 ht ce hf with ⟨hcs, _⟩ | ⟨a, len, cap, m, n, V, D, Pl, hcs, _, hl, hm, hmm, _, hx⟩
  · simp at hcs; subst hcs
    exact ⟨[], [], rfl, Rd.nil w 1, fun i x l h => by simp at h⟩
  · simp at hcs; subst hcs
    have hlm : len ≤ m := by rw [hmm]; split <;> omega
    have each : ∀ i, i < len → ∃ l : List UInt8, Byts w (V i) l := fun i hi => byts_of he hq cq (hx i (by omega)).2
    obtain ⟨F, hF⟩ := choose_lt each
    refine ⟨(List.range len).map F, (List.range len).map V, by simp, ?_, ?_⟩
    · rw [List.length_map, List.length_range]
      refine ⟨_, cap, rfl, hl, by simpa [maxLen] using hm, by simp, fun h => (by cases h), fun hn ad e => ?_⟩
      cases e
      obtain ⟨b, o, s⟩ := a
      have hc0 := (hx 0 (by omega)).1
      have hsp : s = none := by
        have := World.cell?_spot hc0
        simpa [Addr.add] using this
      subst hsp
      refine ⟨rfl, World.block_lt_of_cell? w _ hc0, fun j u hu => ?_⟩
      have hj : j < len := by
        have := List.getElem?_eq_some_iff.1 hu
        obtain ⟨h, _⟩ := this
        simpa using h
      have := (hx j (by omega)).1
      rw [show ((⟨b, o, none⟩ : Addr).add j) = ⟨b, o + j, none⟩ by unfold Addr.add; split <;> simp_all] at this
      rw [this]
      rw [List.getElem?_map, List.getElem?_range hj] at hu
      simpa using hu
    · intro i y l hy hl'
      have hi : i < len := by
        have := List.getElem?_eq_some_iff.1 hy
        obtain ⟨h, _⟩ := this
        simpa using h
      rw [List.getElem?_map, List.getElem?_range hi] at hy hl'
      simp at hy hl'
      subst hy hl'
      exact hF i hi
theorem objs_of {spare : Nat → Bool} {t e q : TypeId} {f0 f1 : Field} {fuel : Nat} {v : Value} {y : DataW H × List MemPlace} (ht : P.underlying t = some (.slice e)) (he : P.underlying e = some (.struct #[f0, f1])) (ce : P.cellsOf e = 2) (o0 : f0.offset = 0) (o1 : f1.offset = 1) (c0 : P.cellsOf f0.type = 1) (c1 : P.cellsOf f1.type = 1)
    (h0 : P.underlying f0.type = some (.int .i64)) (h1 : P.underlying f1.type = some (.slice q)) (hq : P.underlying q = some (.int .u64)) (cq : P.cellsOf q = 1) (hf : DataW.trod enc P w base spare held fuel t [v] = some y) : ∃ L, Objs w v L := by
  rcases open_slice_pairs ht he ce o0 o1 c0 c1 hf with ⟨hcs, _⟩ | ⟨a, len, cap, m, n, V0, V1, D0, D1, P0, P1, hcs, _, hl, hm, hmm, _, hx⟩
  · simp at hcs; subst hcs
    exact ⟨[], Objs.nil w⟩
  · simp at hcs; subst hcs
    have hlm : len ≤ m := by rw [hmm]; split <;> omega
    have each : ∀ i, i < len → ∃ p : Int × List UInt64, V0 i = i64 p.1 ∧ Words w (V1 i) p.2 := by
      intro i hi
      obtain ⟨_, _, g0, g1⟩ := hx i (by omega)
      obtain ⟨z, e0, _, _⟩ := DataW.trod_int h0 g0
      obtain ⟨l, hw⟩ := words_of h1 hq cq g1
      simp at e0
      exact ⟨(z, l), e0, hw⟩
    obtain ⟨F, hF⟩ := choose_lt each
    have hobc : ∀ n, n ≤ len → obC ((List.range n).map fun i => (⟨(F i).1, (F i).2⟩ : Ob)) ((List.range n).map V1) = (List.range n).flatMap fun i => [V0 i, V1 i] := by
      intro n
      induction n with
      | zero => intro _; rfl
      | succ n ih =>
        intro hn
        rw [List.range_succ, List.map_append, List.map_append, List.flatMap_append]
        rw [List.map_cons, List.map_nil, List.map_cons, List.map_nil, obC_snoc (by simp), ih (by omega)]
        simp only [List.flatMap_cons, List.flatMap_nil, List.append_nil]
        rw [(hF n (by omega)).1]
    refine ⟨(List.range len).map fun i => (⟨(F i).1, (F i).2⟩ : Ob), (List.range len).map V1, by simp, ?_, ?_⟩
    · rw [List.length_map, List.length_range, hobc len (Nat.le_refl _)]
      have hfl : ∀ n, ((List.range n).flatMap fun i => [V0 i, V1 i]).length = n * 2 := by
        intro n
        induction n with
        | zero => rfl
        | succ n ih => rw [List.range_succ, List.flatMap_append, List.length_append, ih]; simp; omega
      have hget : ∀ n k, k < n → ((List.range n).flatMap fun i => [V0 i, V1 i])[k * 2]? = some (V0 k) ∧ ((List.range n).flatMap fun i => [V0 i, V1 i])[k * 2 + 1]? = some (V1 k) := by
        intro n
        induction n with
        | zero => intro k hk; omega
        | succ n ih =>
          intro k hk
          rw [List.range_succ, List.flatMap_append]
          by_cases hkn : k < n
          · rw [List.getElem?_append_left (by rw [hfl]; omega), List.getElem?_append_left (by rw [hfl]; omega)]
            exact ih k hkn
          · obtain rfl : k = n := by omega
            rw [List.getElem?_append_right (by rw [hfl]; omega), List.getElem?_append_right (by rw [hfl]; omega), hfl]
            simp
      refine ⟨_, cap, rfl, hl, by simpa [maxLen] using hm, hfl len, fun h => (by cases h), fun hn ad e => ?_⟩
      cases e
      obtain ⟨b, o, s⟩ := a
      have hc0 := (hx 0 (by omega)).1
      have hsp : s = none := by
        have := World.cell?_spot hc0
        simpa [Addr.add] using this
      subst hsp
      refine ⟨rfl, World.block_lt_of_cell? w _ hc0, fun j u hu => ?_⟩
      have hj : j < len * 2 := by
        have := List.getElem?_eq_some_iff.1 hu
        obtain ⟨h, _⟩ := this
        rwa [hfl] at h
      obtain ⟨k, rfl | rfl⟩ : ∃ k, j = k * 2 ∨ j = k * 2 + 1 := ⟨j / 2, by omega⟩
      · rw [(hget len k (by omega)).1] at hu
        have := (hx k (by omega)).1
        rw [show ((⟨b, o, none⟩ : Addr).add (k * 2)) = ⟨b, o + k * 2, none⟩ by unfold Addr.add; split <;> simp_all] at this
        rw [this]; exact hu
      · rw [(hget len k (by omega)).2] at hu
        have := (hx k (by omega)).2.1
        rw [show ((⟨b, o, none⟩ : Addr).add (k * 2 + 1)) = ⟨b, o + (k * 2 + 1), none⟩ by unfold Addr.add; split <;> simp_all] at this
        rw [this]; exact hu
    · intro i y l hy hl'
      have hi : i < len := by
        have := List.getElem?_eq_some_iff.1 hy
        obtain ⟨h, _⟩ := this
        simpa using h
      rw [List.getElem?_map, List.getElem?_range hi] at hy hl'
      simp at hy hl'
      subst hy hl'
      exact (hF i hi).2
theorem slots_of {spare : Nat → Bool} {t e : TypeId} {f0 f1 f2 : Field} {fuel : Nat} {v : Value} {y : DataW H × List MemPlace} (ht : P.underlying t = some (.slice e)) (he : P.underlying e = some (.struct #[f0, f1, f2])) (hone : oneCellFields P #[f0, f1, f2] = true) (ce : P.cellsOf e = 3)
    (h0 : P.underlying f0.type = some (.int .i64)) (h1 : P.underlying f1.type = some .bool) (h2 : P.underlying f2.type = some (.int .i64)) (hf : DataW.trod enc P w base spare held fuel t [v] = some y) : ∃ L, Slots w v L := by
  rcases open_slice ht hf with ⟨hcs, _⟩ | ⟨a, len, cap, m, n, D, Pl, hcs, _, hl, hm, hmm, _, hx⟩
  · simp at hcs; subst hcs
    exact ⟨[], Slots.nil w⟩
  · simp at hcs; subst hcs
    have hlm : len ≤ m := by rw [hmm]; split <;> omega
    have each : ∀ i, i < len → ∃ s : Sl, w.cell? (a.add (i * 3)) = some (.int .i64 s.gen) ∧ w.cell? (a.add (i * 3 + 1)) = some (.bool s.used) ∧ w.cell? (a.add (i * 3 + 2)) = some (.int .i64 s.at_) := by
      intro i hi
      obtain ⟨cs', g1, g2⟩ := hx i (by omega)
      rw [ce] at g1
      obtain ⟨_, hlen, hcell⟩ := World.cells?_some g1
      obtain ⟨y0, y1, y2, k, _, _, p0, p1, p2⟩ := trod_struct3 he g2
      obtain ⟨o0, k0⟩ := hone_of hone 0 f0 rfl
      obtain ⟨o1, k1⟩ := hone_of hone 1 f1 rfl
      obtain ⟨o2, k2⟩ := hone_of hone 2 f2 rfl
      match cs', hlen with
      | [v0, v1, v2], _ =>
        obtain ⟨z0, e0, _, _⟩ := DataW.trod_int h0 p0
        obtain ⟨z1, e1, _⟩ := DataW.trod_bool h1 p1
        obtain ⟨z2, e2, _, _⟩ := DataW.trod_int h2 p2
        simp [o0, o1, o2, k0, k1, k2] at e0 e1 e2
        subst e0 e1 e2
        have q0 := hcell 0 (by omega); have q1 := hcell 1 (by omega); have q2 := hcell 2 (by omega)
        rw [add_add] at q0 q1 q2
        exact ⟨⟨z0, z1, z2⟩, by simpa using q0, by simpa using q1, by simpa using q2⟩
    haveI : Inhabited Sl := ⟨.none⟩
    obtain ⟨F, hF⟩ := choose_lt each
    refine ⟨(List.range len).map F, ?_⟩
    unfold Slots
    rw [List.length_map, List.length_range]
    refine ⟨_, cap, rfl, hl, by simpa [maxLen] using hm, by rw [tabL_len]; simp, fun h => (by cases h), fun hn ad e => ?_⟩
    cases e
    obtain ⟨b, o, s⟩ := a
    have hc0 := (hF 0 (by omega)).1
    have hsp : s = none := by
      have := World.cell?_spot hc0
      simpa [Addr.add] using this
    subst hsp
    refine ⟨rfl, World.block_lt_of_cell? w _ hc0, fun j u hu => ?_⟩
    have hj : j < len * 3 := by
      have := List.getElem?_eq_some_iff.1 hu
      obtain ⟨h, _⟩ := this
      rw [tabL_len] at h; simpa using h
    obtain ⟨k, q, hq, rfl⟩ : ∃ k q, q < 3 ∧ j = k * 3 + q := ⟨j / 3, j % 3, Nat.mod_lt _ (by omega), by omega⟩
    have hk : k < len := by omega
    have hs : ((List.range len).map F)[k]? = some (F k) := by rw [List.getElem?_map, List.getElem?_range hk]; rfl
    rw [tabL_get _ k _ hs q hq] at hu
    obtain ⟨g0, g1, g2⟩ := hF k hk
    have ad : ∀ j, ((⟨b, o, none⟩ : Addr).add j) = ⟨b, o + j, none⟩ := fun j => by unfold Addr.add; split <;> simp_all
    rw [ad] at g0 g1 g2
    have : q = 0 ∨ q = 1 ∨ q = 2 := by omega
    rcases this with rfl | rfl | rfl
    · rw [Nat.add_zero, g0]; simpa [slC] using hu
    · rw [g1]; simpa [slC] using hu
    · rw [g2]; simpa [slC] using hu
theorem open_model {spare : Nat → Bool} {t eT eO eS q8 q64 : TypeId} {f0 f1 f2 g0 g1 k0 k1 k2 : Field} {v : Value} {d : DataW H} {ps : List MemPlace} (hs : P.underlying t = some (.struct #[f0, f1, f2])) (hone : oneCellFields P #[f0, f1, f2] = true) (hC : P.cellsOf t = 3)
    (hT : P.underlying f0.type = some (.slice eT)) (hT2 : P.underlying eT = some (.slice q8)) (hq8 : P.underlying q8 = some (.int .u8)) (cT : P.cellsOf eT = 1) (c8 : P.cellsOf q8 = 1)
    (hO : P.underlying f1.type = some (.slice eO)) (hO2 : P.underlying eO = some (.struct #[g0, g1])) (cO : P.cellsOf eO = 2) (o0 : g0.offset = 0) (o1 : g1.offset = 1) (c0 : P.cellsOf g0.type = 1) (c1 : P.cellsOf g1.type = 1) (hg0 : P.underlying g0.type = some (.int .i64)) (hg1 : P.underlying g1.type = some (.slice q64)) (hq64 : P.underlying q64 = some (.int .u64)) (c64 : P.cellsOf q64 = 1)
    (hS : P.underlying f2.type = some (.slice eS)) (hS2 : P.underlying eS = some (.struct #[k0, k1, k2])) (hSone : oneCellFields P #[k0, k1, k2] = true) (cS : P.cellsOf eS = 3) (hk0 : P.underlying k0.type = some (.int .i64)) (hk1 : P.underlying k1.type = some .bool) (hk2 : P.underlying k2.type = some (.int .i64))
    (hv : Value.okWide P w r b0 t v) (h : DataW.Trod enc P w base spare held t v d ps) : ∃ tv ov sv m, v = .agg #[tv, ov, sv] ∧ Mod w tv ov sv m := by
  obtain ⟨v0, v1, v2, y0, y1, y2, n, rfl, _, _, h0, h1, h2⟩ := open_agg3 hs hone hC hv h
  obtain ⟨T, hT'⟩ := typs_of hT hT2 hq8 cT c8 h0
  obtain ⟨O, hO'⟩ := objs_of hO hO2 cO o0 o1 c0 c1 hg0 hg1 hq64 c64 h1
  obtain ⟨S, hS'⟩ := slots_of hS hS2 hSone cS hk0 hk1 hk2 h2
  exact ⟨v0, v1, v2, ⟨T, O, S⟩, rfl, hT', hO', hS'⟩
end
end Go.Proofs.Yteejianjjpdimaa
namespace Go.Proofs.Yteejianjjpdimaa
open Go.RowKit L02
/-- a call of a script -/
structure Cl where
  op : Int
  a : Int
  b : Int
  n : Int
  v : UInt64
def Cl.none : Cl := ⟨0, 0, 0, 0, 0⟩
def clL (c : Cl) : List Value := [.int .i64 c.op, .int .i64 c.a, .int .i64 c.b, .int .i64 c.n, .int .u64 c.v.toNat]
def tabC (L : List Cl) : List Value := L.flatMap clL
theorem tabC_len (L : List Cl) : (tabC L).length = L.length * 5 := by
  induction L with
  | nil => rfl
  | cons s L ih => rw [tabC, List.flatMap_cons, List.length_append, ← tabC, ih]; simp [clL]; omega
theorem tabC_get : ∀ (L : List Cl) (k : Nat) (s : Cl), L[k]? = some s → ∀ i, i < 5 → (tabC L)[k * 5 + i]? = (clL s)[i]?
  | [], _, _, h, _, _ => by cases h
  | t :: L, 0, s, h, i, hi => by
    simp at h; subst h
    rw [tabC, List.flatMap_cons, Nat.zero_mul, Nat.zero_add, List.getElem?_append_left (by simpa [clL] using hi)]
  | t :: L, k + 1, s, h, i, hi => by
    rw [tabC, List.flatMap_cons, List.getElem?_append_right (by simp [clL]; omega)]
    rw [show (k + 1) * 5 + i - (clL t).length = k * 5 + i by simp [clL]; omega]
    exact tabC_get L k s (by simpa using h) i hi
/-- A slice of calls. -/
def Cals (w : World) (v : Value) (L : List Cl) : Prop := Rd w 5 v L.length (tabC L)
theorem Cals.below {w w' : World} {v : Value} {L : List Cl} (h : Cals w v L) (hb : Below w.heap.size w w') : Cals w' v L := Rd.below h hb
theorem Cals.nil (w : World) : Cals w (.slice none 0 0) [] := Rd.nil w 5
def hnL (h : Int × Int) : List Value := [.int .i64 h.1, .int .i64 h.2]
def tabH (L : List (Int × Int)) : List Value := L.flatMap hnL
theorem tabH_len (L : List (Int × Int)) : (tabH L).length = L.length * 2 := by
  induction L with
  | nil => rfl
  | cons s L ih => rw [tabH, List.flatMap_cons, List.length_append, ← tabH, ih]; simp [hnL]; omega
theorem tabH_get : ∀ (L : List (Int × Int)) (k : Nat) (s : Int × Int), L[k]? = some s → ∀ i, i < 2 → (tabH L)[k * 2 + i]? = (hnL s)[i]?
  | [], _, _, h, _, _ => by cases h
  | t :: L, 0, s, h, i, hi => by
    simp at h; subst h
    rw [tabH, List.flatMap_cons, Nat.zero_mul, Nat.zero_add, List.getElem?_append_left (by simpa [hnL] using hi)]
  | t :: L, k + 1, s, h, i, hi => by
    rw [tabH, List.flatMap_cons, List.getElem?_append_right (by simp [hnL]; omega)]
    rw [show (k + 1) * 2 + i - (hnL t).length = k * 2 + i by simp [hnL]; omega]
    exact tabH_get L k s (by simpa using h) i hi
/-- A slice of handles. -/
def Hnds (w : World) (v : Value) (L : List (Int × Int)) : Prop := Rd w 2 v L.length (tabH L)
def OwnG (w : World) (base : Nat) (v : Value) (L : List (Int × Int)) : Prop := w.ownsRow base 50 2 v L.length (tabH L)
theorem OwnG.rd {w : World} {base : Nat} {v : Value} {L : List (Int × Int)} (h : OwnG w base v L) : Hnds w v L := Rd.of_own h
theorem Hnds.below {w w' : World} {v : Value} {L : List (Int × Int)} (h : Hnds w v L) (hb : Below w.heap.size w w') : Hnds w' v L := Rd.below h hb
theorem OwnG.below {w w' : World} {base : Nat} {v : Value} {L : List (Int × Int)} (h : OwnG w base v L) (hb : Below w.heap.size w w') : OwnG w' base v L := own_below h hb
theorem OwnG.nil (w : World) (base : Nat) : OwnG w base (.slice none 0 0) [] := World.ownsRow_nil w base _ 2
theorem OwnG.of {w : World} {B n : Nat} {v : Value} {xs : List Value} {L : List (Int × Int)} (h : w.ownsRow B 50 2 v n xs) (hx : xs = tabH L) : OwnG w B v L := by
  subst hx
  have hn : n = L.length := by have := h.1; rw [tabH_len] at this; omega
  subst hn; exact h
end Go.Proofs.Yteejianjjpdimaa
namespace Go.Proofs.Yteejianjjpdimaa
open Go.RowKit Go.ChangeShapes Go.WideShapes Go.ChangeAt Go.Joins Go.Deep L18 L20
section
variable {H : Type} {enc : TypeId × Value → H} {P : Program} {w : World} {base : Nat} {held : Bool} {r : Reach} {b0 : Nat}
theorem trod_struct5 {spare : Nat → Bool} {t : TypeId} {f0 f1 f2 f3 f4 : Field} {fuel : Nat} {cs : List Value} {x : DataW H × List MemPlace} (ht : P.underlying t = some (.struct #[f0, f1, f2, f3, f4])) (h : DataW.trod enc P w base spare held fuel t cs = some x) :
    ∃ y0 y1 y2 y3 y4 n, cs.length = P.cellsOf t ∧ DataW.trod enc P w base spare held n f0.type ((cs.drop f0.offset).take (P.cellsOf f0.type)) = some y0 ∧ DataW.trod enc P w base spare held n f1.type ((cs.drop f1.offset).take (P.cellsOf f1.type)) = some y1 ∧
      DataW.trod enc P w base spare held n f2.type ((cs.drop f2.offset).take (P.cellsOf f2.type)) = some y2 ∧ DataW.trod enc P w base spare held n f3.type ((cs.drop f3.offset).take (P.cellsOf f3.type)) = some y3 ∧ DataW.trod enc P w base spare held n f4.type ((cs.drop f4.offset).take (P.cellsOf f4.type)) = some y4 := by
  obtain ⟨xs, n, _, rfl, hl, hlen, hf⟩ := DataW.trod_struct ht h
  match xs, hlen with
  | [y0, y1, y2, y3, y4], _ => exact ⟨y0, y1, y2, y3, y4, n, hl, by simpa using hf 0 f0 rfl, by simpa using hf 1 f1 rfl, by simpa using hf 2 f2 rfl, by simpa using hf 3 f3 rfl, by simpa using hf 4 f4 rfl⟩
theorem calls_of {spare : Nat → Bool} {t e : TypeId} {f0 f1 f2 f3 f4 : Field} {fuel : Nat} {v : Value} {y : DataW H × List MemPlace} (ht : P.underlying t = some (.slice e)) (he : P.underlying e = some (.struct #[f0, f1, f2, f3, f4])) (hone : oneCellFields P #[f0, f1, f2, f3, f4] = true) (ce : P.cellsOf e = 5)
    (h0 : P.underlying f0.type = some (.int .i64)) (h1 : P.underlying f1.type = some (.int .i64)) (h2 : P.underlying f2.type = some (.int .i64)) (h3 : P.underlying f3.type = some (.int .i64)) (h4 : P.underlying f4.type = some (.int .u64)) (hf : DataW.trod enc P w base spare held fuel t [v] = some y) : ∃ L, Cals w v L := by
  rcases open_slice ht hf with ⟨hcs, _⟩ | ⟨a, len, cap, m, n, D, Pl, hcs, _, hl, hm, hmm, _, hx⟩
  · simp at hcs; subst hcs
    exact ⟨[], Cals.nil w⟩
  · simp at hcs; subst hcs
    have hlm : len ≤ m := by rw [hmm]; split <;> omega
    have each : ∀ i, i < len → ∃ s : Cl, w.cell? (a.add (i * 5)) = some (.int .i64 s.op) ∧ w.cell? (a.add (i * 5 + 1)) = some (.int .i64 s.a) ∧ w.cell? (a.add (i * 5 + 2)) = some (.int .i64 s.b) ∧ w.cell? (a.add (i * 5 + 3)) = some (.int .i64 s.n) ∧ w.cell? (a.add (i * 5 + 4)) = some (.int .u64 s.v.toNat) := by
      intro i hi
      obtain ⟨cs', g1, g2⟩ := hx i (by omega)
      rw [ce] at g1
      obtain ⟨_, hlen, hcell⟩ := World.cells?_some g1
      obtain ⟨y0, y1, y2, y3, y4, k, _, p0, p1, p2, p3, p4⟩ := trod_struct5 he g2
      obtain ⟨o0, k0⟩ := hone_of hone 0 f0 rfl
      obtain ⟨o1, k1⟩ := hone_of hone 1 f1 rfl
      obtain ⟨o2, k2⟩ := hone_of hone 2 f2 rfl
      obtain ⟨o3, k3⟩ := hone_of hone 3 f3 rfl
      obtain ⟨o4, k4⟩ := hone_of hone 4 f4 rfl
      match cs', hlen with
      | [v0, v1, v2, v3, v4], _ =>
        obtain ⟨z0, e0, _, _⟩ := DataW.trod_int h0 p0
        obtain ⟨z1, e1, _, _⟩ := DataW.trod_int h1 p1
        obtain ⟨z2, e2, _, _⟩ := DataW.trod_int h2 p2
        obtain ⟨z3, e3, _, _⟩ := DataW.trod_int h3 p3
        obtain ⟨z4, e4, _, b4⟩ := DataW.trod_int h4 p4
        simp [o0, o1, o2, o3, o4, k0, k1, k2, k3, k4] at e0 e1 e2 e3 e4
        subst e0 e1 e2 e3 e4
        obtain ⟨x4, rfl⟩ := bd_u64 b4
        have q0 := hcell 0 (by omega); have q1 := hcell 1 (by omega); have q2 := hcell 2 (by omega); have q3 := hcell 3 (by omega); have q4 := hcell 4 (by omega)
        rw [add_add] at q0 q1 q2 q3 q4
        exact ⟨⟨z0, z1, z2, z3, x4⟩, by simpa using q0, by simpa using q1, by simpa using q2, by simpa using q3, by simpa using q4⟩
    haveI : Inhabited Cl := ⟨.none⟩
    obtain ⟨F, hF⟩ := choose_lt each
    refine ⟨(List.range len).map F, ?_⟩
    unfold Cals
    rw [List.length_map, List.length_range]
    refine ⟨_, cap, rfl, hl, by simpa [maxLen] using hm, by rw [tabC_len]; simp, fun h => (by cases h), fun hn ad e => ?_⟩
    cases e
    obtain ⟨b, o, s⟩ := a
    have hc0 := (hF 0 (by omega)).1
    have hsp : s = none := by
      have := World.cell?_spot hc0
      simpa [Addr.add] using this
    subst hsp
    refine ⟨rfl, World.block_lt_of_cell? w _ hc0, fun j u hu => ?_⟩
    have hj : j < len * 5 := by
      have := List.getElem?_eq_some_iff.1 hu
      obtain ⟨h, _⟩ := this
      rw [tabC_len] at h; simpa using h
    obtain ⟨k, q, hq, rfl⟩ : ∃ k q, q < 5 ∧ j = k * 5 + q := ⟨j / 5, j % 5, Nat.mod_lt _ (by omega), by omega⟩
    have hk : k < len := by omega
    have hs : ((List.range len).map F)[k]? = some (F k) := by rw [List.getElem?_map, List.getElem?_range hk]; rfl
    rw [tabC_get _ k _ hs q hq] at hu
    obtain ⟨g0, g1, g2, g3, g4⟩ := hF k hk
    have ad : ∀ j, ((⟨b, o, none⟩ : Addr).add j) = ⟨b, o + j, none⟩ := fun j => by unfold Addr.add; split <;> simp_all
    rw [ad] at g0 g1 g2 g3 g4
    have : q = 0 ∨ q = 1 ∨ q = 2 ∨ q = 3 ∨ q = 4 := by omega
    rcases this with rfl | rfl | rfl | rfl | rfl
    · rw [Nat.add_zero, g0]; simpa [clL] using hu
    · rw [g1]; simpa [clL] using hu
    · rw [g2]; simpa [clL] using hu
    · rw [g3]; simpa [clL] using hu
    · rw [g4]; simpa [clL] using hu
theorem open_calls {spare : Nat → Bool} {t e : TypeId} {f0 f1 f2 f3 f4 : Field} {v : Value} {d : DataW H} {ps : List MemPlace} (ht : P.underlying t = some (.slice e)) (he : P.underlying e = some (.struct #[f0, f1, f2, f3, f4])) (hone : oneCellFields P #[f0, f1, f2, f3, f4] = true) (ce : P.cellsOf e = 5)
    (h0 : P.underlying f0.type = some (.int .i64)) (h1 : P.underlying f1.type = some (.int .i64)) (h2 : P.underlying f2.type = some (.int .i64)) (h3 : P.underlying f3.type = some (.int .i64)) (h4 : P.underlying f4.type = some (.int .u64))
    (hv : Value.okWide P w r b0 t v) (h : DataW.Trod enc P w base spare held t v d ps) : ∃ L, Cals w v L := by
  obtain ⟨a, len, cap, rfl⟩ := okWide_slice ht hv
  obtain ⟨fuel, hf⟩ := h
  exact calls_of ht he hone ce h0 h1 h2 h3 h4 (by simpa [Value.cells] using hf)
/-- a list of pairs of numbers -/
theorem pairs_of {spare : Nat → Bool} {t e q : TypeId} {fuel : Nat} {v : Value} {y : DataW H × List MemPlace} (ht : P.underlying t = some (.slice e)) (he : P.underlying e = some (.array 2 q)) (hq : P.underlying q = some (.int .i64)) (cq : P.cellsOf q = 1) (ce : P.cellsOf e = 2)
    (hf : DataW.trod enc P w base spare held fuel t [v] = some y) : ∃ L, Hnds w v L := by
  rcases open_slice ht hf with ⟨hcs, _⟩ | ⟨a, len, cap, m, n, D, Pl, hcs, _, hl, hm, hmm, _, hx⟩
  · simp at hcs; subst hcs
    exact ⟨[], Rd.nil w 2⟩
  · simp at hcs; subst hcs
    have hlm : len ≤ m := by rw [hmm]; split <;> omega
    have each : ∀ i, i < len → ∃ s : Int × Int, w.cell? (a.add (i * 2)) = some (.int .i64 s.1) ∧ w.cell? (a.add (i * 2 + 1)) = some (.int .i64 s.2) := by
      intro i hi
      obtain ⟨cs', g1, g2⟩ := hx i (by omega)
      rw [ce] at g1
      obtain ⟨_, hlen, hcell⟩ := World.cells?_some g1
      obtain ⟨xs, k, _, _, _, hxl, hx2⟩ := DataW.trod_array he g2
      match cs', hlen, xs, hxl with
      | [v0, v1], _, [x0, x1], _ =>
        have p0 := hx2 0 (by omega)
        have p1 := hx2 1 (by omega)
        rw [cq] at p0 p1
        obtain ⟨z0, e0, _, _⟩ := DataW.trod_int hq p0
        obtain ⟨z1, e1, _, _⟩ := DataW.trod_int hq p1
        simp at e0 e1
        subst e0 e1
        have q0 := hcell 0 (by omega); have q1 := hcell 1 (by omega)
        rw [add_add] at q0 q1
        exact ⟨(z0, z1), by simpa using q0, by simpa using q1⟩
    obtain ⟨F, hF⟩ := choose_lt each
    refine ⟨(List.range len).map F, ?_⟩
    unfold Hnds
    rw [List.length_map, List.length_range]
    refine ⟨_, cap, rfl, hl, by simpa [maxLen] using hm, by rw [tabH_len]; simp, fun h => (by cases h), fun hn ad e => ?_⟩
    cases e
    obtain ⟨b, o, s⟩ := a
    have hc0 := (hF 0 (by omega)).1
    have hsp : s = none := by
      have := World.cell?_spot hc0
      simpa [Addr.add] using this
    subst hsp
    refine ⟨rfl, World.block_lt_of_cell? w _ hc0, fun j u hu => ?_⟩
    have hj : j < len * 2 := by
      have := List.getElem?_eq_some_iff.1 hu
      obtain ⟨h, _⟩ := this
      rw [tabH_len] at h; simpa using h
    obtain ⟨k, q, hq, rfl⟩ : ∃ k q, q < 2 ∧ j = k * 2 + q := ⟨j / 2, j % 2, Nat.mod_lt _ (by omega), by omega⟩
    have hk : k < len := by omega
    have hs : ((List.range len).map F)[k]? = some (F k) := by rw [List.getElem?_map, List.getElem?_range hk]; rfl
    rw [tabH_get _ k _ hs q hq] at hu
    obtain ⟨g0, g1⟩ := hF k hk
    have ad : ∀ j, ((⟨b, o, none⟩ : Addr).add j) = ⟨b, o + j, none⟩ := fun j => by unfold Addr.add; split <;> simp_all
    rw [ad] at g0 g1
    have : q = 0 ∨ q = 1 := by omega
    rcases this with rfl | rfl
    · rw [Nat.add_zero, g0]; simpa [hnL] using hu
    · rw [g1]; simpa [hnL] using hu
theorem open_pairs {spare : Nat → Bool} {t e q : TypeId} {v : Value} {d : DataW H} {ps : List MemPlace} (ht : P.underlying t = some (.slice e)) (he : P.underlying e = some (.array 2 q)) (hq : P.underlying q = some (.int .i64)) (cq : P.cellsOf q = 1) (ce : P.cellsOf e = 2)
    (hv : Value.okWide P w r b0 t v) (h : DataW.Trod enc P w base spare held t v d ps) : ∃ L, Hnds w v L := by
  obtain ⟨a, len, cap, rfl⟩ := okWide_slice ht hv
  obtain ⟨fuel, hf⟩ := h
  exact pairs_of ht he hq cq ce (by simpa [Value.cells] using hf)
end
end Go.Proofs.Yteejianjjpdimaa
namespace Go.Proofs.Yteejianjjpdimaa.L20
open L02 L13 L18
def dropM (m : Mo) (sl g : Int) : Mo := if asked m sl g = 0 then ⟨m.types, m.objs, m.slots.set sl.toNat ⟨g, false, 0⟩⟩ else .nil
def allE (m : Mo) (t : Int) : Int := if chk m = 0 then (if 0 ≤ t ∧ t < m.types.length then (if next m.slots = none then 23 else if m.objs.length = 960 then 4 else 0) else 2) else chk m
def newO (m : Mo) (t : Int) : Ob := ⟨t, List.replicate (m.types.getD t.toNat []).length 0⟩
def allM (m : Mo) (t : Int) : Mo := if allE m t = 0 then ⟨m.types, m.objs ++ [newO m t], givS m m.objs.length ((next m.slots).getD 0)⟩ else .nil
def allS (m : Mo) (t : Int) : Int := if allE m t = 0 then ((next m.slots).getD 0 : Nat) else 0
def allG (m : Mo) (t : Int) : Int := if allE m t = 0 then (m.slots.getD ((next m.slots).getD 0) .none).gen + 1 else 0
/-- a reference to object n -/
def isRef (m : Mo) (o : Ob) (k : Nat) (n : Nat) : Prop := ((ty m.types o).getD k 0).toNat = 3 ∧ (o.fs.getD k 0).toNat = n + 1
instance (m : Mo) (o : Ob) (k n : Nat) : Decidable (isRef m o k n) := inferInstanceAs (Decidable (_ ∧ _))
/-- another slot, or a field of another object, refers to object n -/
def Busy (m : Mo) (sl : Int) (n : Nat) : Prop := (∃ i, i < m.slots.length ∧ (i : Int) ≠ sl ∧ (m.slots.getD i .none).used = true ∧ (m.slots.getD i .none).at_ = n) ∨ ∃ i, i < m.objs.length ∧ i ≠ n ∧ ∃ k, k < (ob m i).fs.length ∧ isRef m (ob m i) k n
instance (m : Mo) (sl : Int) (n : Nat) : Decidable (Busy m sl n) := inferInstanceAs (Decidable ((∃ i, i < m.slots.length ∧ (i : Int) ≠ sl ∧ (m.slots.getD i .none).used = true ∧ (m.slots.getD i .none).at_ = n) ∨ ∃ i, i < m.objs.length ∧ i ≠ n ∧ ∃ k, k < (ob m i).fs.length ∧ isRef m (ob m i) k n))
def freeE (m : Mo) (sl g : Int) : Int := if asked m sl g = 0 then (if Busy m sl (own m sl) then 45 else 0) else asked m sl g
/-- a number behind object n, one lower -/
def lowA (n : Nat) (a : Int) : Int := if (n : Int) < a then a - 1 else a
def lowV (n : Nat) (k : UInt8) (v : UInt64) : UInt64 := if k.toNat = 3 ∧ n + 1 < v.toNat then v - 1 else v
def lowO (m : Mo) (n : Nat) (o : Ob) : Ob := ⟨o.ty, (List.range o.fs.length).map fun i => lowV n ((ty m.types o).getD i 0) (o.fs.getD i 0)⟩
def lowS (n : Nat) (s : Sl) : Sl := if s.used = true then ⟨s.gen, true, lowA n s.at_⟩ else s
def freeM (m : Mo) (sl g : Int) : Mo := if freeE m sl g = 0 then ⟨m.types, (m.objs.map (lowO m (own m sl))).eraseIdx (own m sl), ((m.slots.set sl.toNat ⟨g, false, 0⟩).map (lowS (own m sl)))⟩ else .nil
end Go.Proofs.Yteejianjjpdimaa.L20
namespace Go.Proofs.Yteejianjjpdimaa.L20
open L02 L13 L18
def numV (ns : List Int) (k : UInt8) (v : UInt64) : UInt64 := if k.toNat = 3 ∧ 0 < v.toNat then UInt64.ofNat (ns.getD (v.toNat - 1) 0 + 1).toNat else v
def numO (m : Mo) (ns : List Int) (o : Ob) : Ob := ⟨o.ty, (List.range o.fs.length).map fun i => numV ns ((ty m.types o).getD i 0) (o.fs.getD i 0)⟩
def numN (m : Mo) (ns : List Int) (want k : Nat) : List Ob := ((List.range k).filter fun n => decide (ns.getD n (-2) = (want : Int))).map fun n => numO m ns (ob m n)
def numJ (m : Mo) (ns : List Int) (j : Nat) : List Ob := (List.range j).flatMap fun want => numN m ns want ns.length
def numS (ns : List Int) (s : Sl) : Sl := if s.used = true then ⟨s.gen, true, ns.getD s.at_.toNat 0⟩ else s
def numM (m : Mo) (ns : List Int) : Mo := ⟨m.types, numJ m ns ns.length, m.slots.map (numS ns)⟩
theorem numJ_succ (m : Mo) (ns : List Int) (j : Nat) : numJ m ns (j + 1) = numJ m ns j ++ numN m ns j ns.length := by
  simp [numJ, List.range_succ, List.flatMap_append]
theorem numV_other {ns : List Int} {k : UInt8} {v : UInt64} (h : ¬ (k.toNat = 3 ∧ 0 < v.toNat)) : numV ns k v = v := if_neg h
end Go.Proofs.Yteejianjjpdimaa.L20
namespace Go.Proofs.Yteejianjjpdimaa.L20
open L02 L13 L18
def kidAt (m : Mo) (o : Ob) (i : Nat) : Option Nat := if ((ty m.types o).getD i 0).toNat = 3 ∧ 0 < (o.fs.getD i 0).toNat then some ((o.fs.getD i 0).toNat - 1) else none
def kidsTo (m : Mo) (o : Ob) (p : Nat) : List Nat := (List.range p).filterMap (kidAt m o)
def kids (m : Mo) (n : Nat) : List Nat := kidsTo m (ob m n) (ob m n).fs.length
def rootOf (s : Sl) : Option Nat := if s.used = true then some s.at_.toNat else none
def roots (m : Mo) : List Nat := m.slots.filterMap rootOf
/-- out is what is found, ord has been found, l is to be looked at -/
inductive Rs (m : Mo) : List Nat → List Nat → List Nat → Prop
  | nil (ord : List Nat) : Rs m ord [] ord
  | seen {ord l out : List Nat} {n : Nat} : n ∈ ord → Rs m ord l out → Rs m ord (n :: l) out
  | new {ord l out : List Nat} {n : Nat} : n ∉ ord → Rs m (ord ++ [n]) (kids m n ++ l) out → Rs m ord (n :: l) out
section
variable {m : Mo} {ord l out : List Nat}
theorem Rs.det (h : Rs m ord l out) : ∀ {out'}, Rs m ord l out' → out = out' := by
  induction h with
  | nil ord => intro o h; cases h; rfl
  | seen h1 _ ih => intro o h; cases h with
    | seen _ h => exact ih h
    | new h2 _ => exact absurd h1 h2
  | new h1 _ ih => intro o h; cases h with
    | seen h2 _ => exact absurd h2 h1
    | new _ h => exact ih h
theorem Rs.app (h : Rs m ord l out) : ∀ {a b}, l = a ++ b → ∃ mid, Rs m ord a mid ∧ Rs m mid b out := by
  induction h with
  | nil ord =>
    intro a b h
    obtain ⟨rfl, rfl⟩ := List.append_eq_nil_iff.1 h.symm
    exact ⟨_, .nil _, .nil _⟩
  | @seen ord l out n h1 h2 ih =>
    intro a b h
    cases a with
    | nil => rw [List.nil_append] at h; subst h; exact ⟨_, .nil _, .seen h1 h2⟩
    | cons x a =>
      rw [List.cons_append] at h; injection h with e1 e2; subst e1
      obtain ⟨mid, p1, p2⟩ := ih e2
      exact ⟨mid, .seen h1 p1, p2⟩
  | @new ord l out n h1 h2 ih =>
    intro a b h
    cases a with
    | nil => rw [List.nil_append] at h; subst h; exact ⟨_, .nil _, .new h1 h2⟩
    | cons x a =>
      rw [List.cons_append] at h; injection h with e1 e2; subst e1
      obtain ⟨mid, p1, p2⟩ := ih (a := kids m n ++ a) (b := b) (by rw [e2, List.append_assoc])
      exact ⟨mid, .new h1 p1, p2⟩
theorem Rs.join {mid : List Nat} {a : List Nat} (h : Rs m ord a mid) : ∀ {b out}, Rs m mid b out → Rs m ord (a ++ b) out := by
  induction h with
  | nil ord => intro b out h; exact h
  | seen h1 _ ih => intro b out h; exact .seen h1 (ih h)
  | new h1 _ ih =>
    intro b out h
    have h2 := ih h
    rw [List.append_assoc] at h2
    exact .new h1 h2
theorem Rs.pre (h : Rs m ord l out) : ord <+: out := by
  induction h with
  | nil ord => exact List.prefix_refl _
  | seen _ _ ih => exact ih
  | new _ _ ih => exact (List.prefix_append _ _).trans ih
theorem Rs.nodup (h : Rs m ord l out) : ord.Nodup → out.Nodup := by
  induction h with
  | nil ord => exact id
  | seen _ _ ih => exact ih
  | @new ord l out n h1 _ ih =>
    intro hn
    refine ih (List.nodup_append.2 ⟨hn, by simp, ?_⟩)
    intro x hx y hy e
    rw [List.mem_singleton] at hy
    exact h1 (by rw [← hy, ← e]; exact hx)
theorem Rs.all {p : Nat → Prop} (hk : ∀ n, p n → ∀ k ∈ kids m n, p k) (h : Rs m ord l out) : (∀ n ∈ ord, p n) → (∀ n ∈ l, p n) → ∀ n ∈ out, p n := by
  induction h with
  | nil ord => intro h _; exact h
  | seen _ _ ih => intro h1 h2; exact ih h1 fun n hn => h2 n (List.mem_cons_of_mem _ hn)
  | @new ord l out n _ _ ih =>
    intro h1 h2
    have hpn := h2 n List.mem_cons_self
    refine ih (fun x hx => ?_) fun x hx => ?_
    · rcases List.mem_append.1 hx with h | h
      · exact h1 x h
      · rw [List.mem_singleton.1 h]; exact hpn
    · rcases List.mem_append.1 hx with h | h
      · exact hk n hpn x h
      · exact h2 x (List.mem_cons_of_mem _ h)
theorem Rs.mem (h : Rs m ord l out) : ∀ n ∈ l, n ∈ out := by
  induction h with
  | nil ord => intro n h; cases h
  | seen h1 h2 ih =>
    intro x hx
    rcases List.mem_cons.1 hx with h | h
    · rw [h]; exact h2.pre.subset h1
    · exact ih x h
  | new h1 h2 ih =>
    intro x hx
    rcases List.mem_cons.1 hx with h | h
    · rw [h]; exact h2.pre.subset (List.mem_append_right _ (by simp))
    · exact ih x (List.mem_append_right _ h)
theorem Rs.closed (h : Rs m ord l out) : (∀ n ∈ ord, ∀ k ∈ kids m n, k ∈ ord ∨ k ∈ l) → ∀ n ∈ out, ∀ k ∈ kids m n, k ∈ out := by
  induction h with
  | nil ord =>
    intro h n hn k hk
    rcases h n hn k hk with h | h
    · exact h
    · cases h
  | seen h1 h2 ih =>
    intro h
    refine ih fun x hx k hk => ?_
    rcases h x hx k hk with h | h
    · exact .inl h
    · rcases List.mem_cons.1 h with h | h
      · rw [h]; exact .inl h1
      · exact .inr h
  | new h1 h2 ih =>
    intro h
    refine ih fun x hx k hk => ?_
    rcases List.mem_append.1 hx with hx | hx
    · rcases h x hx k hk with h | h
      · exact .inl (List.mem_append_left _ h)
      · rcases List.mem_cons.1 h with h | h
        · rw [h]; exact .inl (List.mem_append_right _ (by simp))
        · exact .inr (List.mem_append_right _ h)
    · rw [List.mem_singleton.1 hx] at hk
      exact .inr (List.mem_append_left _ hk)
/-- what is found is found in turn -/
theorem nodup_lt {N : Nat} {l : List Nat} (h : l.Nodup) (hl : ∀ n ∈ l, n < N) : l.length ≤ N := by
  have := List.Nodup.length_le_of_subset (l₁ := l) (l₂ := List.range N) h (fun x hx => List.mem_range.2 (hl x hx))
  simpa using this
end
/-- .. in so many steps -/
inductive Rn (m : Mo) : Nat → List Nat → List Nat → List Nat → Prop
  | nil (ord : List Nat) : Rn m 0 ord [] ord
  | seen {ord l out : List Nat} {n d : Nat} : n ∈ ord → Rn m d ord l out → Rn m (d + 1) ord (n :: l) out
  | new {ord l out : List Nat} {n d : Nat} : n ∉ ord → Rn m d (ord ++ [n]) (kids m n ++ l) out → Rn m (d + 1) ord (n :: l) out
theorem Rs.steps {m : Mo} {ord l out : List Nat} (h : Rs m ord l out) : ∃ d, Rn m d ord l out := by
  induction h with
  | nil ord => exact ⟨0, .nil _⟩
  | seen h1 _ ih => obtain ⟨d, h⟩ := ih; exact ⟨d + 1, .seen h1 h⟩
  | new h1 _ ih => obtain ⟨d, h⟩ := ih; exact ⟨d + 1, .new h1 h⟩
theorem Rn.rs {m : Mo} {ord l out : List Nat} {d : Nat} (h : Rn m d ord l out) : Rs m ord l out := by
  induction h with
  | nil ord => exact .nil _
  | seen h1 _ ih => exact .seen h1 ih
  | new h1 _ ih => exact .new h1 ih
theorem Rn.len {m : Mo} {ord l out : List Nat} {d : Nat} (h : Rn m d ord l out) : l.length ≤ d := by
  induction h with
  | nil ord => simp
  | seen h1 _ ih => simp; exact ih
  | new h1 _ ih => simp at ih ⊢; omega
theorem Rn.all {m : Mo} {p : Nat → Prop} (hk : ∀ n, p n → ∀ k ∈ kids m n, p k) {ord l out : List Nat} {d : Nat} (h : Rn m d ord l out) (h1 : ∀ n ∈ ord, p n) (h2 : ∀ n ∈ l, p n) : ∀ n ∈ out, p n := h.rs.all hk h1 h2
theorem Rn.end {m : Mo} {ord out : List Nat} {d : Nat} (h : Rn m d ord [] out) : out = ord := by cases h; rfl
/-- the kids from field p on -/
def kidsFrom (m : Mo) (o : Ob) (p : Nat) : List Nat := ((List.range o.fs.length).drop p).filterMap (kidAt m o)
theorem kidsFrom_step {m : Mo} {o : Ob} {p : Nat} (hp : p < o.fs.length) : kidsFrom m o p = (match kidAt m o p with | none => [] | some c => [c]) ++ kidsFrom m o (p + 1) := by
  have hd : (List.range o.fs.length).drop p = p :: (List.range o.fs.length).drop (p + 1) := by
    rw [List.drop_eq_getElem_cons (by simpa using hp)]; simp
  rw [kidsFrom, hd, List.filterMap_cons]
  cases kidAt m o p <;> rfl
theorem kidsTo_step {m : Mo} {o : Ob} {p : Nat} : kidsTo m o (p + 1) = kidsTo m o p ++ (match kidAt m o p with | none => [] | some c => [c]) := by
  rw [kidsTo, List.range_succ, List.filterMap_append]
  congr 1
  cases h : kidAt m o p <;> simp [h]
/-- the first kids and the others -/
theorem kids_split {m : Mo} {o : Ob} {p : Nat} (hp : p ≤ o.fs.length) : kidsTo m o o.fs.length = kidsTo m o p ++ kidsFrom m o p := by
  rw [kidsTo, kidsTo, kidsFrom, ← List.filterMap_append]
  congr 1
  have := List.take_append_drop p (List.range o.fs.length)
  rw [← this]
  congr 1
  · apply List.ext_getElem?
    intro i
    rw [List.getElem?_take]
    rcases Nat.lt_or_ge i p with h | h
    · rw [if_pos h, List.getElem?_range (by omega), List.getElem?_range h]
    · rw [if_neg (by omega), List.getElem?_eq_none (by simpa using h)]
  · simp [List.drop_append, Nat.min_eq_left hp]
/-- the numbers of what is found -/
def canN (m : Mo) (out : List Nat) : List Int := (List.range m.objs.length).map fun n => if n ∈ out then (out.idxOf n : Int) else -1
def canM (m : Mo) (out : List Nat) : Mo := numM m (canN m out)
end Go.Proofs.Yteejianjjpdimaa.L20
