/- What the functions of models compute, as plain functions. Nothing of the program. -/
import Derived.Test.YtgjpohhafmkhcaaL18
import Derived.Test.YtgjpohhafmkhcaaL13
set_option linter.unusedVariables false
set_option linter.unusedSimpArgs false
namespace Go.Proofs.Ytgjpohhafmkhcaa.L20
open L02 L13 L18

structure Ob where
  ty : Int
  fs : List UInt64
deriving DecidableEq
structure Mo where
  types : List (List UInt8)
  objs : List Ob
  slots : List Sl
deriving DecidableEq
def Mo.nil : Mo := ⟨[], [], []⟩

def no : UInt64 := 9221120237041090561
def FloatOk (v : UInt64) : Prop := v.toNat = 9221120237041090561 ∨ v.toNat % 9223372036854775808 ≤ 9218868437227405312
instance (v : UInt64) : Decidable (FloatOk v) := inferInstanceAs (Decidable (_ ∨ _))
/-- a field of the kind k may hold v, with n objects -/
def FdOk (n : Nat) (k : UInt8) (v : UInt64) : Prop := (k.toNat = 2 → FloatOk v) ∧ (k.toNat = 3 → v.toNat ≤ n)
instance (n : Nat) (k : UInt8) (v : UInt64) : Decidable (FdOk n k v) := inferInstanceAs (Decidable (_ ∧ _))
def ty (T : List (List UInt8)) (o : Ob) : List UInt8 := T.getD o.ty.toNat []
def ObOk (T : List (List UInt8)) (n : Nat) (o : Ob) : Prop := (0 ≤ o.ty ∧ o.ty < T.length) ∧ o.fs.length = (ty T o).length ∧ ∀ i, i < o.fs.length → FdOk n ((ty T o).getD i 0) (o.fs.getD i 0)
instance (T : List (List UInt8)) (n : Nat) (o : Ob) : Decidable (ObOk T n o) := inferInstanceAs (Decidable (_ ∧ _ ∧ ∀ i, i < o.fs.length → _))
def SlOk (n : Nat) (s : Sl) : Prop := (0 ≤ s.gen ∧ s.gen ≤ 2147483647) ∧ (s.used = false → s.at_ = 0) ∧ (s.used = true → 0 < s.gen ∧ 0 ≤ s.at_ ∧ s.at_ < n)
instance (n : Nat) (s : Sl) : Decidable (SlOk n s) := inferInstanceAs (Decidable (_ ∧ _ ∧ _))
def MoOk (m : Mo) : Prop := m.slots.length = 16 ∧ (∀ t ∈ m.types, kErr t = 0) ∧ (∀ o ∈ m.objs, ObOk m.types m.objs.length o) ∧ ∀ s ∈ m.slots, SlOk m.objs.length s
instance (m : Mo) : Decidable (MoOk m) := inferInstanceAs (Decidable (_ ∧ _ ∧ _ ∧ _))
def chk (m : Mo) : Int := if 8 < m.types.length ∨ 960 < m.objs.length then 4 else if MoOk m then 0 else 8
/-- more than the statements consider -/
def Great (m : Mo) : Prop := (40 < m.objs.length ∧ m.objs.length < 960) ∨ 962 < m.objs.length ∨ 20 < m.types.length ∨ 30 < m.slots.length ∨ (∃ t ∈ m.types, 20 < t.length) ∨ ∃ o ∈ m.objs, 20 < o.fs.length
instance (m : Mo) : Decidable (Great m) := inferInstanceAs (Decidable (_ ∨ _ ∨ _ ∨ _ ∨ _ ∨ _))
def asked (m : Mo) (sl g : Int) : Int := if chk m = 0 then rightErr m.slots sl g else chk m
def own (m : Mo) (sl : Int) : Nat := (m.slots.getD sl.toNat .none).at_.toNat
def ob (m : Mo) (k : Nat) : Ob := m.objs.getD k ⟨0, []⟩
def kinds (m : Mo) (sl : Int) : List UInt8 := ty m.types (ob m (own m sl))
/-- the error of a field -/
def kErrF (m : Mo) (sl g n : Int) : Int := if asked m sl g = 0 then (if 0 ≤ n ∧ n < (kinds m sl).length then 0 else 2) else asked m sl g
def kind (m : Mo) (sl g n : Int) : UInt8 := if kErrF m sl g n = 0 then (kinds m sl).getD n.toNat 0 else 0
def fld (m : Mo) (sl n : Int) : UInt64 := (ob m (own m sl)).fs.getD n.toNat 0
def putF (m : Mo) (k i : Nat) (x : UInt64) : Mo := ⟨m.types, m.objs.set k ⟨(ob m k).ty, (ob m k).fs.set i x⟩, m.slots⟩
def put (m : Mo) (sl n : Int) (x : UInt64) : Mo := putF m (own m sl) n.toNat x

def getE (m : Mo) (sl g n : Int) : Int := if kErrF m sl g n = 0 then (if (kind m sl g n).toNat = 3 then 42 else 0) else kErrF m sl g n
def getV (m : Mo) (sl g n : Int) : UInt64 := if getE m sl g n = 0 then fld m sl n else 0
def setV (k : UInt8) (x : UInt64) : UInt64 := if k.toNat = 2 ∧ ¬ FloatOk x then no else x
def setM (m : Mo) (sl g n : Int) (x : UInt64) : Mo := if getE m sl g n = 0 then put m sl n (setV (kind m sl g n) x) else .nil
/-- the handle that is referred to, or none -/
def refE (m : Mo) (sl g n : Int) (to : Option (Int × Int)) : Int := if kErrF m sl g n = 0 then (if (kind m sl g n).toNat = 3 then (match to with | none => 0 | some t => rightErr m.slots t.1 t.2) else 42) else kErrF m sl g n
def refM (m : Mo) (sl g n : Int) (to : Option (Int × Int)) : Mo := if refE m sl g n to = 0 then put m sl n (match to with | none => 0 | some t => UInt64.ofNat (own m t.1 + 1)) else .nil
/-- a new slot -/
def givS (m : Mo) (n : Int) (k : Nat) : List Sl := m.slots.set k ⟨(m.slots.getD k .none).gen + 1, true, n⟩
def rootE (m : Mo) (sl g n : Int) : Int := if kErrF m sl g n = 0 then (if (kind m sl g n).toNat = 3 then (if fld m sl n = 0 then 6 else if next m.slots = none then 23 else 0) else 42) else kErrF m sl g n
def rootM (m : Mo) (sl g n : Int) : Mo := if rootE m sl g n = 0 then ⟨m.types, m.objs, givS m ((fld m sl n).toNat - 1 : Nat) ((next m.slots).getD 0)⟩ else .nil
def rootS (m : Mo) (sl g n : Int) : Int := if rootE m sl g n = 0 then ((next m.slots).getD 0 : Nat) else 0
def rootG (m : Mo) (sl g n : Int) : Int := if rootE m sl g n = 0 then (m.slots.getD ((next m.slots).getD 0) .none).gen + 1 else 0

theorem chk_ok {m : Mo} (h : chk m = 0) : m.types.length ≤ 8 ∧ m.objs.length ≤ 960 ∧ MoOk m := by
  unfold chk at h
  split at h
  · omega
  · split at h
    · exact ⟨by omega, by omega, by assumption⟩
    · omega
theorem chk_many {m : Mo} (h : 8 < m.types.length ∨ 960 < m.objs.length) : chk m = 4 := if_pos h
theorem chk_bad {m : Mo} (h : ¬ (8 < m.types.length ∨ 960 < m.objs.length)) (h2 : ¬ MoOk m) : chk m = 8 := by rw [chk, if_neg h, if_neg h2]
theorem chk_zero {m : Mo} (h : ¬ (8 < m.types.length ∨ 960 < m.objs.length)) (h2 : MoOk m) : chk m = 0 := by rw [chk, if_neg h, if_pos h2]
theorem no_type {m : Mo} {k : Nat} {t : List UInt8} (h : m.types[k]? = some t) (hb : kErr t ≠ 0) : ¬ MoOk m := fun hm => hb (hm.2.1 t (List.mem_of_getElem? h))
theorem no_obj {m : Mo} {k : Nat} {o : Ob} (h : m.objs[k]? = some o) (hb : ¬ ObOk m.types m.objs.length o) : ¬ MoOk m := fun hm => hb (hm.2.2.1 o (List.mem_of_getElem? h))
theorem no_slot {m : Mo} {k : Nat} {s : Sl} (h : m.slots[k]? = some s) (hb : ¬ SlOk m.objs.length s) : ¬ MoOk m := fun hm => hb (hm.2.2.2 s (List.mem_of_getElem? h))
/-- a right handle -/
theorem right_ok {L : List Sl} {sl g : Int} (h : rightErr L sl g = 0) : ∃ (k : Nat) (s : Sl), sl = (k : Int) ∧ k < L.length ∧ L[k]? = some s ∧ s.used = true ∧ s.gen = g := by
  unfold rightErr at h
  split at h
  · rename_i h1
    split at h
    · rename_i h2
      obtain ⟨k, rfl⟩ := Int.eq_ofNat_of_zero_le h1.1
      have hk : k < L.length := by omega
      have hs : L[k]? = some L[k] := List.getElem?_eq_getElem hk
      have hgd : L.getD (k : Int).toNat .none = L[k] := by simp [List.getD_eq_getElem?_getD, hs]
      rw [hgd] at h2
      exact ⟨k, _, rfl, hk, hs, h2.1, h2.2⟩
    · omega
  · omega
/-- what is known behind a right handle -/
theorem asked_ok {m : Mo} {sl g : Int} (h : asked m sl g = 0) : chk m = 0 ∧ rightErr m.slots sl g = 0 ∧ ∃ (k : Nat) (s : Sl) (n : Nat) (o : Ob) (t : List UInt8), sl = (k : Int) ∧ k < 16 ∧ m.slots[k]? = some s ∧ s.used = true ∧ s.gen = g ∧ SlOk m.objs.length s ∧ s.at_ = (n : Int) ∧ own m sl = n ∧
    m.objs[n]? = some o ∧ ob m n = o ∧ ObOk m.types m.objs.length o ∧ m.types[o.ty.toNat]? = some t ∧ ty m.types o = t ∧ kinds m sl = t ∧ o.fs.length = t.length := by
  unfold asked at h
  split at h
  · rename_i h0
    obtain ⟨h1, h2, h3⟩ := chk_ok h0
    obtain ⟨k, s, rfl, hk, hs, hu, hg⟩ := right_ok h
    have hso := h3.2.2.2 s (List.mem_of_getElem? hs)
    obtain ⟨a1, a2, a3⟩ := hso.2.2 hu
    obtain ⟨n, hn⟩ := Int.eq_ofNat_of_zero_le a2
    have hnl : n < m.objs.length := by omega
    have ho : m.objs[n]? = some m.objs[n] := List.getElem?_eq_getElem hnl
    have hoo := h3.2.2.1 _ (List.mem_of_getElem? ho)
    have hob : ob m n = m.objs[n] := by simp [ob, List.getD_eq_getElem?_getD, ho]
    have hown : own m (k : Int) = n := by simp [own, List.getD_eq_getElem?_getD, hs, hn]
    have hty : m.objs[n].ty.toNat < m.types.length := by have := hoo.1; omega
    have ht : m.types[m.objs[n].ty.toNat]? = some m.types[m.objs[n].ty.toNat] := List.getElem?_eq_getElem hty
    have htt : ty m.types m.objs[n] = m.types[m.objs[n].ty.toNat] := by simp [ty, List.getD_eq_getElem?_getD, ht]
    exact ⟨h0, h, k, s, n, _, _, rfl, by rw [h3.1] at hk; exact hk, hs, hu, hg, hso, hn, hown, ho, hob, hoo, ht, htt, by rw [kinds, hown, hob, htt], by rw [hoo.2.1, htt]⟩
  · rename_i h0; exact absurd h h0
theorem asked_no {m : Mo} {sl g : Int} (h : chk m ≠ 0) : asked m sl g = chk m := if_neg h
theorem asked_eq {m : Mo} {sl g : Int} (h : chk m = 0) : asked m sl g = rightErr m.slots sl g := if_pos h
theorem kErrF_no {m : Mo} {sl g n : Int} (h : asked m sl g ≠ 0) : kErrF m sl g n = asked m sl g := if_neg h
theorem kErrF_arg {m : Mo} {sl g n : Int} (h : asked m sl g = 0) (hn : ¬ (0 ≤ n ∧ n < (kinds m sl).length)) : kErrF m sl g n = 2 := by rw [kErrF, if_pos h, if_neg hn]
theorem kErrF_ok {m : Mo} {sl g n : Int} (h : asked m sl g = 0) (hn : 0 ≤ n ∧ n < (kinds m sl).length) : kErrF m sl g n = 0 := by rw [kErrF, if_pos h, if_pos hn]
theorem kErrF_inv {m : Mo} {sl g n : Int} (h : kErrF m sl g n = 0) : asked m sl g = 0 ∧ 0 ≤ n ∧ n < (kinds m sl).length := by
  unfold kErrF at h
  split at h
  · split at h
    · rename_i h1 h2; exact ⟨h1, h2⟩
    · omega
  · rename_i h1; exact absurd h h1
end Go.Proofs.Ytgjpohhafmkhcaa.L20
