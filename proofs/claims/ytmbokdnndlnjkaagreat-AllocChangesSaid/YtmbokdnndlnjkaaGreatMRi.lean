/- Contracts of the functions that the laws 'R' reach, part 9. No condition. -/
import Derived.Test.YtmbokdnndlnjkaaGreatMRf
import Derived.Test.YtmbokdnndlnjkaaGreatMRh
set_option linter.unusedVariables false
set_option linter.unusedSimpArgs false
namespace Go.Proofs.YtmbokdnndlnjkaaGreat.L07
open L02 L05 L06
def c0 (m : List UInt64) : List UInt64 := m.take 8
def c1 (m : List UInt64) : List UInt64 := (m.drop 8).take 8
def CopyOk (n : Nat) (l : List UInt64) : Prop := ReadOk l ∧ at2 l = (n : Int)
instance (n : Nat) (l : List UInt64) : Decidable (CopyOk n l) := inferInstanceAs (Decidable (ReadOk l ∧ at2 l = (n : Int)))
def is0 (m : List UInt64) : Bool := decide (SizeOk m.length ∧ CopyOk m.length (c0 m))
def is1 (m : List UInt64) : Bool := decide (SizeOk m.length ∧ CopyOk m.length (c1 m))
def rErr (m : List UInt64) : Int := if SizeOk m.length then (if is0 m = true ∨ is1 m = true then 0 else 50) else 8
/-- the copy that counts -/
def one (m : List UInt64) : List UInt64 := if is0 m = true then c0 m else c1 m
def sW (m : List UInt64) : Int := if rErr m = 0 then (m.length : Int) else 0
def sT (m : List UInt64) : Int := if rErr m = 0 then at3 (one m) else 0
def view (m : List UInt64) : List UInt64 := if rErr m = 0 then one m ++ (one m ++ m.drop 16) else []
def heals (m : List UInt64) : List (Int × UInt64) := if rErr m = 0 then (diffs m (view m)).map fun i => (i, (view m).getD i.toNat 0) else []
theorem c0_len {m : List UInt64} (h : SizeOk m.length) : (c0 m).length = 8 := by have := h.1; simp [c0]; omega
theorem c1_len {m : List UInt64} (h : SizeOk m.length) : (c1 m).length = 8 := by have := h.1; simp [c1]; omega
theorem rErr_ok {m : List UInt64} (h : rErr m = 0) : SizeOk m.length ∧ (is0 m = true ∨ is1 m = true) := by
  unfold rErr at h
  split at h
  · split at h
    · exact ⟨‹_›, ‹_›⟩
    · omega
  · omega
theorem rErr_mk {m : List UInt64} (h : SizeOk m.length) (h1 : is0 m = true ∨ is1 m = true) : rErr m = 0 := by rw [rErr, if_pos h, if_pos h1]
theorem rErr_no {m : List UInt64} (h : ¬ SizeOk m.length) : rErr m = 8 := if_neg h
theorem rErr_50 {m : List UInt64} (h : SizeOk m.length) (h0 : is0 m = false) (h1 : is1 m = false) : rErr m = 50 := by rw [rErr, if_pos h, if_neg (by simp [h0, h1])]
theorem is0_no {m : List UInt64} (h : ¬ SizeOk m.length) : is0 m = false := decide_eq_false (fun x => h x.1)
theorem is1_no {m : List UInt64} (h : ¬ SizeOk m.length) : is1 m = false := decide_eq_false (fun x => h x.1)
theorem is0_good {m : List UInt64} (h : SizeOk m.length) : is0 m = decide (CopyOk m.length (c0 m)) := by simp [is0, h]
theorem is1_good {m : List UInt64} (h : SizeOk m.length) : is1 m = decide (CopyOk m.length (c1 m)) := by simp [is1, h]
theorem one_good {m : List UInt64} (h : rErr m = 0) : CopyOk m.length (one m) := by
  obtain ⟨_, h1⟩ := rErr_ok h
  unfold one
  split
  · rename_i h0; exact (of_decide_eq_true h0).2
  · rename_i h0
    exact (of_decide_eq_true (h1.resolve_left h0)).2
theorem one_len {m : List UInt64} (h : rErr m = 0) : (one m).length = 8 := readOk_len (one_good h).1
/-- the copy that counts is what Write writes -/
theorem one_words {m : List UInt64} (h : rErr m = 0) : one m = wordsOf (sW m) (sT m) ∧ SupOk (sW m) (sT m) := by
  have hg := one_good h
  have e1 : sW m = at2 (one m) := by rw [sW, if_pos h, hg.2]
  have e2 : sT m = at3 (one m) := if_pos h
  rw [e1, e2]
  exact ⟨hg.1.2, hg.1.1⟩
theorem view_ok {m : List UInt64} (h : rErr m = 0) : view m = one m ++ (one m ++ m.drop 16) := if_pos h
theorem view_len {m : List UInt64} (h : rErr m = 0) : (view m).length = m.length := by
  have := (rErr_ok h).1.1
  rw [view_ok h]; simp [one_len h]; omega
section
variable {m a b : List UInt64}
end
/-- differences -/
theorem diffsTo_mem {a b : List UInt64} {k : Nat} {x : Int} (h : x ∈ diffsTo a b k) : ∃ i : Nat, x = (i : Int) ∧ i < k ∧ a[i]? ≠ b[i]? := by
  unfold diffsTo at h
  obtain ⟨i, hi, rfl⟩ := List.mem_map.1 h
  obtain ⟨h1, h2⟩ := List.mem_filter.1 hi
  exact ⟨i, rfl, List.mem_range.1 h1, of_decide_eq_true h2⟩
theorem diffsTo_more {a b : List UInt64} {n : Nat} (h : ∀ i, n ≤ i → a[i]? = b[i]?) : ∀ k, n ≤ k → diffsTo a b k = diffsTo a b n
  | 0, h0 => by rw [Nat.le_zero.1 h0]
  | k + 1, h0 => by
    by_cases hk : n = k + 1
    · rw [hk]
    · rw [diffsTo_succ, diffsTo_more h k (by omega), if_neg (by simp [h k (by omega)]), List.append_nil]
theorem diffsTo_congr {a b a' b' : List UInt64} {k : Nat} (h1 : ∀ i, i < k → a[i]? = a'[i]?) (h2 : ∀ i, i < k → b[i]? = b'[i]?) : diffsTo a b k = diffsTo a' b' k := by
  unfold diffsTo
  congr 1
  apply List.filter_congr
  intro i hi
  rw [h1 i (List.mem_range.1 hi), h2 i (List.mem_range.1 hi)]
section
variable {m : List UInt64}
theorem diff_ok (h : rErr m = 0) : diffErr m (view m) = 0 ∧ diffs m (view m) = diffsTo m (view m) m.length := by
  have h1 := (rErr_ok h).1
  have h2 := view_len h
  have e : diffErr m (view m) = 0 := by rw [diffErr, if_pos ⟨h1, by rw [h2]; exact h1⟩, if_pos h2.symm]
  exact ⟨e, if_pos e⟩
/-- behind the copies all is as it was -/
theorem view_far (h : rErr m = 0) {i : Nat} (hi : 16 ≤ i) : m[i]? = (view m)[i]? := by
  rw [view_ok h, List.getElem?_append_right (by rw [one_len h]; omega), List.getElem?_append_right (by rw [one_len h]; omega), List.getElem?_drop, one_len h]
  congr 1; omega
theorem heals_to (h : rErr m = 0) : heals m = (diffsTo m (view m) 16).map fun i => (i, (view m).getD i.toNat 0) := by
  have := (rErr_ok h).1.1
  rw [heals, if_pos h, (diff_ok h).2, diffsTo_more (fun i hi => view_far h hi) m.length (by omega)]
/-- TwinApart -/
theorem apart {k : Nat} (hk : 16 ≤ k) (x : UInt64) : rErr (m.set k x) = rErr m ∧ is0 (m.set k x) = is0 m ∧ is1 (m.set k x) = is1 m ∧ sW (m.set k x) = sW m ∧ sT (m.set k x) = sT m ∧ heals (m.set k x) = heals m := by
  have e0 : c0 (m.set k x) = c0 m := by rw [c0, List.take_set_of_le (by omega)]; rfl
  have e1 : c1 (m.set k x) = c1 m := by rw [c1, List.drop_set, if_neg (by omega), List.take_set_of_le (by omega)]; rfl
  have i0 : is0 (m.set k x) = is0 m := by unfold is0; rw [e0, List.length_set]
  have i1 : is1 (m.set k x) = is1 m := by unfold is1; rw [e1, List.length_set]
  have r : rErr (m.set k x) = rErr m := by unfold rErr; rw [i0, i1, List.length_set]
  have o : one (m.set k x) = one m := by unfold one; rw [i0, e0, e1]
  refine ⟨r, i0, i1, by unfold sW; rw [r, List.length_set], by unfold sT; rw [r, o], ?_⟩
  by_cases h : rErr m = 0
  · have h' : rErr (m.set k x) = 0 := r.trans h
    have ev : ∀ i, i < 16 → (view (m.set k x))[i]? = (view m)[i]? := fun i hi => by
      rw [view_ok h, view_ok h', o, ← List.append_assoc, ← List.append_assoc, List.getElem?_append_left (l₁ := one m ++ one m) (by simp [one_len h]; omega), List.getElem?_append_left (l₁ := one m ++ one m) (by simp [one_len h]; omega)]
    rw [heals_to h, heals_to h', diffsTo_congr (a' := m) (b' := view m) (fun i hi => by rw [List.getElem?_set_ne (by omega)]) ev]
    apply List.map_congr_left
    intro y hy
    obtain ⟨i, rfl, hi, _⟩ := diffsTo_mem hy
    simp only [Int.toNat_natCast, List.getD_eq_getElem?_getD, ev i hi]
  · rw [heals, if_neg (by rw [r]; exact h), heals, if_neg h]
end
/-- an image of zeros with a superblock in both copies -/
def made (W T : Int) : List UInt64 := wordsOf W T ++ (wordsOf W T ++ List.replicate (W.toNat - 16) 0)
end Go.Proofs.YtmbokdnndlnjkaaGreat.L07
namespace Go.Proofs.YtmbokdnndlnjkaaGreat.L18
open L02
theorem ws_set {l : List UInt64} {k : Nat} (x : UInt64) (hk : k < 16) : ws (l.set (112 + k) x) = (ws l).set k x := by
  unfold ws
  rw [List.drop_set, if_neg (by omega), show 112 + k - 112 = k by omega, List.take_set]
theorem slots_set {l : List UInt64} {k : Nat} (x : UInt64) (hk : k < 16) : slots (l.set (112 + k) x) = (slots l).set k (spl x) := by
  unfold slots
  rw [ws_set x hk, List.map_set]
theorem size_of {l : List UInt64} (h : openErr l = 0) : SizeOk l.length := by
  unfold openErr at h
  split at h
  · assumption
  · omega
theorem allR_of {l : List UInt64} (h : openErr l = 0) : AllR l := by
  unfold openErr at h
  split at h
  · split at h
    · assumption
    · omega
  · omega
theorem openErr_set {l : List UInt64} {k : Nat} {x : UInt64} (h : openErr l = 0) (hk : k < 16) (hx : Right (spl x)) : openErr (l.set (112 + k) x) = 0 := by
  have h1 := size_of h
  have h2 := allR_of h
  unfold openErr
  rw [List.length_set, if_pos h1, if_pos]
  intro y hy
  rw [ws_set x hk] at hy
  rcases List.mem_or_eq_of_mem_set hy with h3 | rfl
  · exact h2 y h3
  · exact hx
theorem slots_len' {l : List UInt64} (h : openErr l = 0) : (slots l).length = 16 := by
  have := (size_of h).1
  simp [slots, ws]; omega
theorem newErr_ok {l : List UInt64} {a : Int} (h : newErr l a = 0) : openErr l = 0 ∧ (128 ≤ a ∧ a < 2048) ∧ ∃ k, next (slots l) = some k := by
  unfold newErr at h
  split at h
  · rename_i h0
    split at h
    · rename_i h1
      split at h
      · omega
      · rename_i h2
        exact ⟨h0, h1, Option.ne_none_iff_exists'.1 h2⟩
    · omega
  · rename_i h0; exact absurd h h0
theorem nextFrom_some : ∀ {L : List Sl} {j k : Nat}, nextFrom L j = some k → j ≤ k ∧ (∃ s, L[k - j]? = some s ∧ s.used = false ∧ s.gen ≠ 2147483647) ∧ ∀ i s, i < k - j → L[i]? = some s → ¬ (s.used = false ∧ s.gen ≠ 2147483647)
  | [], _, _, h => by cases h
  | s :: L, j, k, h => by
    rw [nextFrom] at h
    split at h
    · rename_i h2
      injection h with h
      subst h
      exact ⟨Nat.le_refl _, ⟨s, by simp, h2⟩, fun i t hi => by omega⟩
    · rename_i h2
      obtain ⟨h1, ⟨t, h3, h4⟩, h5⟩ := nextFrom_some h
      refine ⟨by omega, ⟨t, by rw [show k - j = (k - (j + 1)) + 1 by omega, List.getElem?_cons_succ]; exact h3, h4⟩, fun i u hi hu => ?_⟩
      cases i with
      | zero => simp at hu; subst hu; exact h2
      | succ i => exact h5 i u (by omega) (by simpa using hu)
/-- what a new handle is -/
theorem new_spec {l : List UInt64} {a : Int} (h : newErr l a = 0) : ∃ (k : Nat) (s : Sl), k < 16 ∧ (slots l)[k]? = some s ∧ s.used = false ∧ s.gen ≠ 2147483647 ∧ Right s ∧ Right ⟨s.gen + 1, true, a⟩ ∧ newSlot l a = (k : Int) ∧ newGen l a = s.gen + 1 ∧ newAt l a = 112 + (k : Int) ∧ newVal l a = pk ⟨s.gen + 1, true, a⟩ ∧
    ∀ i t, i < k → (slots l)[i]? = some t → ¬ (t.used = false ∧ t.gen ≠ 2147483647) := by
  obtain ⟨h0, ha, k, hk⟩ := newErr_ok h
  obtain ⟨_, ⟨s, h1, h2, h3⟩, h4⟩ := nextFrom_some hk
  rw [Nat.sub_zero] at h1 h4
  have hk16 : k < 16 := by have := (List.getElem?_eq_some_iff.1 h1).1; rw [slots_len' h0] at this; exact this
  have hR : Right s := by
    obtain ⟨x, hx, hxs⟩ := List.mem_map.1 (List.mem_of_getElem? h1)
    rw [← hxs]; exact allR_of h0 x hx
  have e2 : newGen l a = s.gen + 1 := by rw [newGen, if_pos h, hk]; simp [List.getD_eq_getElem?_getD, h1]
  have g0 := hR.1; have g1 := hR.2.1
  refine ⟨k, s, hk16, h1, h2, h3, hR, ⟨by show 0 ≤ s.gen + 1; omega, by show s.gen + 1 ≤ 2147483647; omega, by simp, fun _ => ⟨by show 0 < s.gen + 1; omega, ha.1, ha.2⟩⟩, ?_, e2, ?_, ?_, h4⟩
  · rw [newSlot, if_pos h, hk]; rfl
  · rw [newAt, if_pos h, hk]; rfl
  · rw [newVal, if_pos h, e2]
theorem resErr_ok {l : List UInt64} {sl g : Int} (h : resErr l sl g = 0) : openErr l = 0 ∧ ∃ (k : Nat) (s : Sl), k < 16 ∧ sl = (k : Int) ∧ (slots l)[k]? = some s ∧ s.used = true ∧ s.gen = g ∧ Right s ∧ res l sl g = s.at_ := by
  have hr := h
  unfold resErr at h
  split at h
  · rename_i h0
    unfold rightErr at h
    rw [slots_len' h0] at h
    split at h
    · rename_i h1
      split at h
      · rename_i h2
        obtain ⟨k, rfl⟩ := Int.eq_ofNat_of_zero_le h1.1
        have hk : k < 16 := by omega
        have hs : (slots l)[k]? = some ((slots l)[k]'(by rw [slots_len' h0]; exact hk)) := List.getElem?_eq_getElem _
        have hgd : (slots l).getD (k : Int).toNat .none = (slots l)[k]'(by rw [slots_len' h0]; exact hk) := by simp [List.getD_eq_getElem?_getD, hs]
        rw [hgd] at h2
        refine ⟨h0, k, _, hk, rfl, hs, h2.1, h2.2, ?_, by rw [res, if_pos hr, hgd]⟩
        obtain ⟨x, hx, hxs⟩ := List.mem_map.1 (List.mem_of_getElem? hs)
        rw [← hxs]; exact allR_of h0 x hx
      · omega
    · omega
  · rename_i h0; exact absurd h h0
theorem resErr_at {l : List UInt64} {k : Nat} {s : Sl} (h : openErr l = 0) (hs : (slots l)[k]? = some s) (g : Int) : resErr l k g = (if s.used = true ∧ s.gen = g then 0 else 28) ∧ (s.used = true → s.gen = g → res l k g = s.at_) := by
  have hk : k < 16 := by have := (List.getElem?_eq_some_iff.1 hs).1; rw [slots_len' h] at this; exact this
  have hgd : (slots l).getD (k : Int).toNat .none = s := by simp [List.getD_eq_getElem?_getD, hs]
  have e : resErr l k g = (if s.used = true ∧ s.gen = g then 0 else 28) := by
    rw [resErr, if_pos h, rightErr, if_pos ⟨by omega, by rw [slots_len' h]; omega⟩, hgd]
  exact ⟨e, fun h1 h2 => by rw [res, e, if_pos (if_pos ⟨h1, h2⟩), hgd]⟩
end Go.Proofs.YtmbokdnndlnjkaaGreat.L18
namespace Go.Proofs.YtmbokdnndlnjkaaGreat.L20
open L02 L13 L18
structure Ob where
  ty : Int
  fs : List UInt64
deriving DecidableEq
structure Mo where
  types : List (List UInt8)
  objs : List Ob
  slots : List Sl
deriving DecidableEq
def Mo.nil : Mo := ⟨[], [], []⟩
def no : UInt64 := 9221120237041090561
def FloatOk (v : UInt64) : Prop := v.toNat = 9221120237041090561 ∨ v.toNat % 9223372036854775808 ≤ 9218868437227405312
instance (v : UInt64) : Decidable (FloatOk v) := inferInstanceAs (Decidable (_ ∨ _))
/-- a field of the kind k may hold v, with n objects -/
def FdOk (n : Nat) (k : UInt8) (v : UInt64) : Prop := (k.toNat = 2 → FloatOk v) ∧ (k.toNat = 3 → v.toNat ≤ n)
instance (n : Nat) (k : UInt8) (v : UInt64) : Decidable (FdOk n k v) := inferInstanceAs (Decidable (_ ∧ _))
def ty (T : List (List UInt8)) (o : Ob) : List UInt8 := T.getD o.ty.toNat []
def ObOk (T : List (List UInt8)) (n : Nat) (o : Ob) : Prop := (0 ≤ o.ty ∧ o.ty < T.length) ∧ o.fs.length = (ty T o).length ∧ ∀ i, i < o.fs.length → FdOk n ((ty T o).getD i 0) (o.fs.getD i 0)
instance (T : List (List UInt8)) (n : Nat) (o : Ob) : Decidable (ObOk T n o) := inferInstanceAs (Decidable (_ ∧ _ ∧ ∀ i, i < o.fs.length → _))
def SlOk (n : Nat) (s : Sl) : Prop := (0 ≤ s.gen ∧ s.gen ≤ 2147483647) ∧ (s.used = false → s.at_ = 0) ∧ (s.used = true → 0 < s.gen ∧ 0 ≤ s.at_ ∧ s.at_ < n)
instance (n : Nat) (s : Sl) : Decidable (SlOk n s) := inferInstanceAs (Decidable (_ ∧ _ ∧ _))
def MoOk (m : Mo) : Prop := m.slots.length = 16 ∧ (∀ t ∈ m.types, kErr t = 0) ∧ (∀ o ∈ m.objs, ObOk m.types m.objs.length o) ∧ ∀ s ∈ m.slots, SlOk m.objs.length s
instance (m : Mo) : Decidable (MoOk m) := inferInstanceAs (Decidable (_ ∧ _ ∧ _ ∧ _))
def chk (m : Mo) : Int := if 8 < m.types.length ∨ 960 < m.objs.length then 4 else if MoOk m then 0 else 8
/-- more than the statements consider -/
def Great (m : Mo) : Prop := (40 < m.objs.length ∧ m.objs.length < 960) ∨ 962 < m.objs.length ∨ 20 < m.types.length ∨ 30 < m.slots.length ∨ (∃ t ∈ m.types, 20 < t.length) ∨ ∃ o ∈ m.objs, 20 < o.fs.length
instance (m : Mo) : Decidable (Great m) := inferInstanceAs (Decidable (_ ∨ _ ∨ _ ∨ _ ∨ _ ∨ _))
def asked (m : Mo) (sl g : Int) : Int := if chk m = 0 then rightErr m.slots sl g else chk m
def own (m : Mo) (sl : Int) : Nat := (m.slots.getD sl.toNat .none).at_.toNat
def ob (m : Mo) (k : Nat) : Ob := m.objs.getD k ⟨0, []⟩
def kinds (m : Mo) (sl : Int) : List UInt8 := ty m.types (ob m (own m sl))
/-- the error of a field -/
def kErrF (m : Mo) (sl g n : Int) : Int := if asked m sl g = 0 then (if 0 ≤ n ∧ n < (kinds m sl).length then 0 else 2) else asked m sl g
def kind (m : Mo) (sl g n : Int) : UInt8 := if kErrF m sl g n = 0 then (kinds m sl).getD n.toNat 0 else 0
def fld (m : Mo) (sl n : Int) : UInt64 := (ob m (own m sl)).fs.getD n.toNat 0
def putF (m : Mo) (k i : Nat) (x : UInt64) : Mo := ⟨m.types, m.objs.set k ⟨(ob m k).ty, (ob m k).fs.set i x⟩, m.slots⟩
def put (m : Mo) (sl n : Int) (x : UInt64) : Mo := putF m (own m sl) n.toNat x
def getE (m : Mo) (sl g n : Int) : Int := if kErrF m sl g n = 0 then (if (kind m sl g n).toNat = 3 then 42 else 0) else kErrF m sl g n
def getV (m : Mo) (sl g n : Int) : UInt64 := if getE m sl g n = 0 then fld m sl n else 0
def setV (k : UInt8) (x : UInt64) : UInt64 := if k.toNat = 2 ∧ ¬ FloatOk x then no else x
def setM (m : Mo) (sl g n : Int) (x : UInt64) : Mo := if getE m sl g n = 0 then put m sl n (setV (kind m sl g n) x) else .nil
/-- the handle that is referred to, or none -/
def refE (m : Mo) (sl g n : Int) (tq : Option (Int × Int)) : Int := if kErrF m sl g n = 0 then (if (kind m sl g n).toNat = 3 then (match tq with | none => 0 | some t => rightErr m.slots t.1 t.2) else 42) else kErrF m sl g n
/-- a new slot -/
def givS (m : Mo) (n : Int) (k : Nat) : List Sl := m.slots.set k ⟨(m.slots.getD k .none).gen + 1, true, n⟩
theorem chk_ok {m : Mo} (h : chk m = 0) : m.types.length ≤ 8 ∧ m.objs.length ≤ 960 ∧ MoOk m := by
  unfold chk at h
  split at h
  · omega
  · split at h
    · exact ⟨by omega, by omega, by assumption⟩
    · omega
theorem chk_zero {m : Mo} (h : ¬ (8 < m.types.length ∨ 960 < m.objs.length)) (h2 : MoOk m) : chk m = 0 := by rw [chk, if_neg h, if_pos h2]
/-- a right handle -/
theorem right_ok {L : List Sl} {sl g : Int} (h : rightErr L sl g = 0) : ∃ (k : Nat) (s : Sl), sl = (k : Int) ∧ k < L.length ∧ L[k]? = some s ∧ s.used = true ∧ s.gen = g := by
  unfold rightErr at h
  split at h
  · rename_i h1
    split at h
    · rename_i h2
      obtain ⟨k, rfl⟩ := Int.eq_ofNat_of_zero_le h1.1
      have hk : k < L.length := by omega
      have hs : L[k]? = some L[k] := List.getElem?_eq_getElem hk
      have hgd : L.getD (k : Int).toNat .none = L[k] := by simp [List.getD_eq_getElem?_getD, hs]
      rw [hgd] at h2
      exact ⟨k, _, rfl, hk, hs, h2.1, h2.2⟩
    · omega
  · omega
/-- what is known behind a right handle -/
theorem asked_ok {m : Mo} {sl g : Int} (h : asked m sl g = 0) : chk m = 0 ∧ rightErr m.slots sl g = 0 ∧ ∃ (k : Nat) (s : Sl) (n : Nat) (o : Ob) (t : List UInt8), sl = (k : Int) ∧ k < 16 ∧ m.slots[k]? = some s ∧ s.used = true ∧ s.gen = g ∧ SlOk m.objs.length s ∧ s.at_ = (n : Int) ∧ own m sl = n ∧
    m.objs[n]? = some o ∧ ob m n = o ∧ ObOk m.types m.objs.length o ∧ m.types[o.ty.toNat]? = some t ∧ ty m.types o = t ∧ kinds m sl = t ∧ o.fs.length = t.length := by
  unfold asked at h
  split at h
  · rename_i h0
    obtain ⟨h1, h2, h3⟩ := chk_ok h0
    obtain ⟨k, s, rfl, hk, hs, hu, hg⟩ := right_ok h
    have hso := h3.2.2.2 s (List.mem_of_getElem? hs)
    obtain ⟨a1, a2, a3⟩ := hso.2.2 hu
    obtain ⟨n, hn⟩ := Int.eq_ofNat_of_zero_le a2
    have hnl : n < m.objs.length := by omega
    have ho : m.objs[n]? = some m.objs[n] := List.getElem?_eq_getElem hnl
    have hoo := h3.2.2.1 _ (List.mem_of_getElem? ho)
    have hob : ob m n = m.objs[n] := by simp [ob, List.getD_eq_getElem?_getD, ho]
    have hown : own m (k : Int) = n := by simp [own, List.getD_eq_getElem?_getD, hs, hn]
    have hty : m.objs[n].ty.toNat < m.types.length := by have := hoo.1; omega
    have ht : m.types[m.objs[n].ty.toNat]? = some m.types[m.objs[n].ty.toNat] := List.getElem?_eq_getElem hty
    have htt : ty m.types m.objs[n] = m.types[m.objs[n].ty.toNat] := by simp [ty, List.getD_eq_getElem?_getD, ht]
    exact ⟨h0, h, k, s, n, _, _, rfl, by rw [h3.1] at hk; exact hk, hs, hu, hg, hso, hn, hown, ho, hob, hoo, ht, htt, by rw [kinds, hown, hob, htt], by rw [hoo.2.1, htt]⟩
  · rename_i h0; exact absurd h h0
end Go.Proofs.YtmbokdnndlnjkaaGreat.L20
namespace Go.Proofs.YtmbokdnndlnjkaaGreat.L19
open L02 L07 L13 L14 L15 L18
/-- eight words are 0 -/
def Zr (l : List UInt64) (a : Nat) : Prop := ∀ i, i < 8 → l.getD (a + i) 0 = 0
instance (l : List UInt64) (a : Nat) : Decidable (Zr l a) := inferInstanceAs (Decidable (∀ i, i < 8 → _))
def objs (L : List Hb) : List Hb := L.filter fun b => decide (b.kind = 1)
/-- an object begins at an address -/
def IsObj (O : List Hb) (a : Int) : Prop := ∃ b ∈ O, b.at_ = a
instance (O : List Hb) (a : Int) : Decidable (IsObj O a) := inferInstanceAs (Decidable (∃ b ∈ O, _))
def kindsB (T : List (List UInt8)) (b : Hb) : List UInt8 := T.getD b.ty.toNat []
def fw (l : List UInt64) (b : Hb) (i : Nat) : UInt64 := l.getD (b.at_.toNat + 2 + i) 0
def Idle (b : Hb) : Prop := b.mark = false ∧ b.next = 0
instance (b : Hb) : Decidable (Idle b) := inferInstanceAs (Decidable (_ ∧ _))
def Typed (T : List (List UInt8)) (b : Hb) : Prop := b.ty < T.length ∧ b.size = 2 + (((kindsB T b).length + 1) / 2 * 2 : Nat)
instance (T : List (List UInt8)) (b : Hb) : Decidable (Typed T b) := inferInstanceAs (Decidable (_ ∧ _))
def Padded (l : List UInt64) (T : List (List UInt8)) (b : Hb) : Prop := (kindsB T b).length % 2 = 0 ∨ fw l b (kindsB T b).length = 0
instance (l : List UInt64) (T : List (List UInt8)) (b : Hb) : Decidable (Padded l T b) := inferInstanceAs (Decidable (_ ∨ _))
def FloatsB (l : List UInt64) (T : List (List UInt8)) (b : Hb) : Prop := ∀ i, i < (kindsB T b).length → ((kindsB T b).getD i 0).toNat = 2 → L20.FloatOk (fw l b i)
instance (l : List UInt64) (T : List (List UInt8)) (b : Hb) : Decidable (FloatsB l T b) := inferInstanceAs (Decidable (∀ i, i < _ → _))
def RefsB (l : List UInt64) (T : List (List UInt8)) (O : List Hb) (b : Hb) : Prop := ∀ i, i < (kindsB T b).length → ((kindsB T b).getD i 0).toNat = 3 → (fw l b i = 0 ∨ IsObj O (fw l b i).toNat)
instance (l : List UInt64) (T : List (List UInt8)) (O : List Hb) (b : Hb) : Decidable (RefsB l T O b) := inferInstanceAs (Decidable (∀ i, i < _ → _))
/-- what an object must have, by the number of the reason -/
def Good (l : List UInt64) (T : List (List UInt8)) (O : List Hb) (r : Nat) (b : Hb) : Prop :=
  match r with
  | 7 => Idle b
  | 8 => Typed T b
  | 9 => Padded l T b
  | 10 => FloatsB l T b
  | _ => RefsB l T O b
instance (l : List UInt64) (T : List (List UInt8)) (O : List Hb) (r : Nat) (b : Hb) : Decidable (Good l T O r b) := by
  unfold Good; split <;> infer_instance
def AllGood (l : List UInt64) (T : List (List UInt8)) (O : List Hb) (r : Nat) : Prop := ∀ b ∈ O, Good l T O r b
instance (l : List UInt64) (T : List (List UInt8)) (O : List Hb) (r : Nat) : Decidable (AllGood l T O r) := inferInstanceAs (Decidable (∀ b ∈ O, _))
def SlotsGood (S : List Sl) (O : List Hb) : Prop := ∀ s ∈ S, s.used = true → IsObj O s.at_
instance (S : List Sl) (O : List Hb) : Decidable (SlotsGood S O) := inferInstanceAs (Decidable (∀ s ∈ S, _ → _))
/-- the types, the slots, the blocks, the objects of an image -/
def T19 (l : List UInt64) : List (List UInt8) := tabT l (sT l)
def O19 (l : List UInt64) : List Hb := objs (allL l)
/-- the first of the reasons 1 to 6 -/
def why6 (l : List UInt64) : Nat :=
  if rErr l ≠ 0 then 1 else if ¬ Zr l 16 then 2 else if ¬ Zr l 24 then 3 else if tabErr l (sT l) ≠ 0 then 4 else if openErr l ≠ 0 then 5 else if allErr l ≠ 0 then 6 else 0
/-- the first of the reasons r to 11, or 0 -/
def whyO (l : List UInt64) (T : List (List UInt8)) (O : List Hb) : Nat → Nat → Nat
  | 0, _ => 0
  | f + 1, r => if AllGood l T O r then whyO l T O f (r + 1) else r
def why (l : List UInt64) : Nat :=
  if why6 l ≠ 0 then why6 l else if whyO l (T19 l) (O19 l) 5 7 ≠ 0 then whyO l (T19 l) (O19 l) 5 7 else if SlotsGood (slots l) (O19 l) then 0 else 12
def reaE (l : List UInt64) : Int := if SizeOk l.length then 0 else 8
def rea (l : List UInt64) : Nat := if SizeOk l.length then why l else 0
def chk19 (l : List UInt64) : Int := if SizeOk l.length then (if why l = 0 then 0 else 50) else 8
theorem whyO_zero {l : List UInt64} {T : List (List UInt8)} {O : List Hb} : ∀ (f r : Nat), 0 < r → (whyO l T O f r = 0 ↔ ∀ i, r ≤ i → i < r + f → AllGood l T O i)
  | 0, r, _ => ⟨fun _ i h1 h2 => by omega, fun _ => rfl⟩
  | f + 1, r, hr => by
    rw [whyO]
    by_cases h : AllGood l T O r
    · rw [if_pos h, whyO_zero f (r + 1) (by omega)]
      refine ⟨fun h2 i h3 h4 => ?_, fun h2 i h3 h4 => h2 i (by omega) (by omega)⟩
      by_cases hi : i = r
      · subst hi; exact h
      · exact h2 i (by omega) (by omega)
    · rw [if_neg h]
      exact ⟨fun h2 => by omega, fun h2 => absurd (h2 r (Nat.le_refl _) (by omega)) h⟩
theorem why6_zero {l : List UInt64} : why6 l = 0 ↔ rErr l = 0 ∧ Zr l 16 ∧ Zr l 24 ∧ tabErr l (sT l) = 0 ∧ openErr l = 0 ∧ allErr l = 0 := by
  unfold why6
  by_cases h1 : rErr l = 0 <;> by_cases h2 : Zr l 16 <;> by_cases h3 : Zr l 24 <;> by_cases h4 : tabErr l (sT l) = 0 <;> by_cases h5 : openErr l = 0 <;> by_cases h6 : allErr l = 0 <;> simp [h1, h2, h3, h4, h5, h6]
theorem why_zero {l : List UInt64} : why l = 0 ↔ why6 l = 0 ∧ (∀ i, 7 ≤ i → i < 12 → AllGood l (T19 l) (O19 l) i) ∧ SlotsGood (slots l) (O19 l) := by
  have h := whyO_zero (l := l) (T := T19 l) (O := O19 l) 5 7 (by omega)
  unfold why
  by_cases h1 : why6 l = 0
  · simp only [h1, ne_eq, not_true, if_false, true_and]
    by_cases h2 : whyO l (T19 l) (O19 l) 5 7 = 0
    · simp only [h2, ne_eq, not_true, if_false]
      have h2' := h.1 h2
      by_cases h3 : SlotsGood (slots l) (O19 l)
      · simp only [h3, if_true, and_true, true_iff]; exact h2'
      · simp [h3]
    · simp only [ne_eq, h2, not_false_eq_true, if_true, false_iff]
      exact fun hh => h2 (h.2 hh.1)
  · simp [h1]
theorem chk19_ok {l : List UInt64} (h : chk19 l = 0) : SizeOk l.length ∧ why l = 0 := by
  unfold chk19 at h
  split at h
  · split at h
    · rename_i h1 h2; exact ⟨h1, h2⟩
    · omega
  · omega
end Go.Proofs.YtmbokdnndlnjkaaGreat.L19
namespace Go.Proofs.YtmbokdnndlnjkaaGreat.L19
open L02 L07 L13 L14 L15 L18
theorem getD_set_ne {l : List UInt64} {p k : Nat} {v : UInt64} (h : p ≠ k) : (l.set p v).getD k 0 = l.getD k 0 := by
  rw [List.getD_eq_getElem?_getD, List.getD_eq_getElem?_getD, List.getElem?_set_ne h]
theorem getD_set_self {l : List UInt64} {p : Nat} {v : UInt64} (h : p < l.length) : (l.set p v).getD p 0 = v := by
  rw [List.getD_eq_getElem?_getD, List.getElem?_set_self h]; rfl
/-- words below an address do not matter for the blocks from there on -/
theorem stOk_set {l : List UInt64} {p k : Nat} {v : UInt64} (h : p ≠ k) : StOk (l.set p v) k ↔ StOk l k := by
  unfold StOk; rw [getD_set_ne h, List.length_set]
theorem szN_set {l : List UInt64} {p k : Nat} {v : UInt64} (h : p ≠ k) : szN (l.set p v) k = szN l k := by
  unfold szN; rw [getD_set_ne h]
theorem stand_set {l : List UInt64} {p k : Nat} {v : UInt64} (h : p ≠ k) (h2 : p ≠ k + 1) : stand (l.set p v) k = stand l k := by
  unfold stand; rw [getD_set_ne h, getD_set_ne h2]
theorem stand_set1 {l : List UInt64} {p k : Nat} {v : UInt64} (h : p ≠ k) : stand (l.set p v) k = { stand l k with next := (l.set p v).getD (k + 1) 0 } := by
  unfold stand; rw [getD_set_ne h]
/-- a chain stays a chain where no first word is changed -/
theorem chain_set {l : List UInt64} {p k : Nat} {v : UInt64} {L : List Hb} (h : Chain l k L) (hp : ∀ b ∈ L, b.at_ ≠ (p : Int)) : Chain (l.set p v) k (L.map fun b => { b with next := (l.set p v).getD (b.at_.toNat + 1) 0 }) := by
  induction h with
  | nil =>
    have h0 : Chain (l.set p v) (l.set p v).length [] := .nil
    rw [List.length_set] at h0
    exact h0
  | cons hk hs hc ih =>
    rename_i k L
    have hpk : p ≠ k := fun e => hp _ List.mem_cons_self (by rw [stand_at, e])
    have h1 := ih fun b hb => hp b (List.mem_cons_of_mem _ hb)
    rw [List.map_cons, stand_at, Int.toNat_natCast]
    show Chain (l.set p v) k ({ stand l k with next := (l.set p v).getD (k + 1) 0 } :: _)
    rw [show ({ stand l k with next := (l.set p v).getD (k + 1) 0 } : Hb) = stand (l.set p v) k from (stand_set1 hpk).symm]
    refine .cons (by rw [List.length_set]; exact hk) ((stOk_set hpk).2 hs) ?_
    rw [szN_set hpk]; exact h1
/-- .. and what comes behind a changed chain was one before -/
theorem fromF_set {l : List UInt64} {p : Nat} {v : UInt64} : ∀ (f k : Nat), p < k → fromF (l.set p v) f k = fromF l f k
  | 0, k, h => by rw [fromF, fromF, List.length_set]
  | f + 1, k, h => by
    rw [fromF, fromF, List.length_set]
    by_cases hl : k = l.length
    · rw [if_pos hl, if_pos hl]
    · rw [if_neg hl, if_neg hl]
      by_cases hs : StOk l k
      · have hz := szN_ge hs
        rw [if_pos hs, if_pos ((stOk_set (by omega)).2 hs), stand_set (by omega) (by omega), szN_set (by omega), fromF_set f _ (by omega)]
      · rw [if_neg hs, if_neg (fun h2 => hs ((stOk_set (by omega)).1 h2))]
theorem from_set {l : List UInt64} {p k : Nat} {v : UInt64} (h : p < k) : from_ (l.set p v) k = from_ l k := by
  unfold from_; rw [List.length_set, fromF_set _ _ h]
theorem parsed_set {l : List UInt64} {p : Nat} {v : UInt64} (h : p < 128) : parsed (l.set p v) = parsed l := by
  unfold parsed; rw [from_set h]
theorem allErr_set {l : List UInt64} {p : Nat} {v : UInt64} (h : p < 128) : allErr (l.set p v) = allErr l := by
  unfold allErr; rw [List.length_set, parsed_set h]
theorem allL_set {l : List UInt64} {p : Nat} {v : UInt64} (h : p < 128) : allL (l.set p v) = allL l := by
  unfold allL; rw [allErr_set h, parsed_set h]
/-- the parts in front of the heap -/
theorem c0_set {l : List UInt64} {p : Nat} {v : UInt64} (h : 8 ≤ p) : c0 (l.set p v) = c0 l := by
  unfold c0; rw [List.take_set_of_le h]
theorem c1_set {l : List UInt64} {p : Nat} {v : UInt64} (h : 16 ≤ p) : c1 (l.set p v) = c1 l := by
  unfold c1; rw [List.drop_set, if_neg (by omega), List.take_set_of_le (by omega)]
theorem rErr_set {l : List UInt64} {p : Nat} {v : UInt64} (h : 16 ≤ p) : rErr (l.set p v) = rErr l ∧ sT (l.set p v) = sT l ∧ sW (l.set p v) = sW l := by
  have e0 : is0 (l.set p v) = is0 l := by unfold is0; rw [c0_set (by omega), List.length_set]
  have e1 : is1 (l.set p v) = is1 l := by unfold is1; rw [c1_set h, List.length_set]
  have e2 : rErr (l.set p v) = rErr l := by unfold rErr; rw [e0, e1, List.length_set]
  refine ⟨e2, ?_, ?_⟩
  · unfold sT one; rw [e2, e0, c0_set (by omega), c1_set h]
  · unfold sW; rw [e2, List.length_set]
theorem zr_set {l : List UInt64} {p a : Nat} {v : UInt64} (h : p < a ∨ a + 8 ≤ p) : Zr (l.set p v) a ↔ Zr l a := by
  unfold Zr
  constructor <;> intro hh i hi <;> have := hh i hi <;> rw [getD_set_ne (by omega)] at * <;> exact this
theorem ta_set {l : List UInt64} {p i : Nat} {v : UInt64} (h : p < 96 ∨ 112 ≤ p) (hi : i < 8) : ta (l.set p v) i = ta l i ∧ tb (l.set p v) i = tb l i := by
  unfold ta tb; exact ⟨getD_set_ne (by omega), getD_set_ne (by omega)⟩
theorem tabErr_set {l : List UInt64} {p : Nat} {v : UInt64} (h : p < 96 ∨ 112 ≤ p) (n : Int) : tabErr (l.set p v) n = tabErr l n ∧ tabT (l.set p v) n = tabT l n := by
  have e : ∀ k, TysOk (l.set p v) k ↔ TysOk l k := fun k => by
    unfold TysOk
    constructor <;> intro hh i hi <;> have := hh i hi <;> unfold TyOk at * <;> rw [(ta_set h hi).1, (ta_set h hi).2] at * <;> exact this
  have e2 : tabErr (l.set p v) n = tabErr l n := by
    unfold tabErr; rw [List.length_set]; simp only [e]
  refine ⟨e2, ?_⟩
  unfold tabT
  rw [e2]
  by_cases h0 : tabErr l n = 0
  · rw [if_pos h0, if_pos h0]
    have hn : n.toNat ≤ 8 := by
      unfold tabErr at h0
      split at h0
      · split at h0
        · omega
        · omega
      · omega
    unfold tysTo
    refine List.map_congr_left fun i hi => ?_
    have := List.mem_range.1 hi
    rw [(ta_set h (by omega)).1, (ta_set h (by omega)).2]
  · rw [if_neg h0, if_neg h0]
theorem open_set {l : List UInt64} {p : Nat} {v : UInt64} (h : p < 112 ∨ 128 ≤ p) : openErr (l.set p v) = openErr l ∧ slots (l.set p v) = slots l := by
  have e : ws (l.set p v) = ws l := by
    unfold ws
    rw [List.drop_set]
    split
    · rfl
    · rw [List.take_set_of_le (by omega)]
  refine ⟨?_, by unfold slots; rw [e]⟩
  have e2 : AllR (l.set p v) ↔ AllR l := by unfold AllR; rw [e]
  unfold openErr; rw [List.length_set]; simp only [e2]
/-- the words of fields -/
theorem fw_set {l : List UInt64} {p i : Nat} {v : UInt64} {b : Hb} (h : p ≠ b.at_.toNat + 2 + i) : fw (l.set p v) b i = fw l b i := getD_set_ne h
theorem good_congr {l l' : List UInt64} {T : List (List UInt8)} {O : List Hb} {r : Nat} {b : Hb} (h : ∀ i, i ≤ (kindsB T b).length → ((kindsB T b).length % 2 = 0 → i < (kindsB T b).length) → fw l' b i = fw l b i) : Good l' T O r b ↔ Good l T O r b := by
  unfold Good
  split
  · exact Iff.rfl
  · exact Iff.rfl
  · unfold Padded
    by_cases h2 : (kindsB T b).length % 2 = 0
    · simp [h2]
    · rw [h _ (Nat.le_refl _) (fun e => absurd e h2)]
  · unfold FloatsB
    constructor <;> intro hh i hi <;> have := hh i hi <;> rw [h i (by omega) (fun _ => hi)] at * <;> exact this
  · unfold RefsB
    constructor <;> intro hh i hi <;> have := hh i hi <;> rw [h i (by omega) (fun _ => hi)] at * <;> exact this
/-- where the blocks of a chain lie -/
theorem chain_apart {l : List UInt64} {k : Nat} {L : List Hb} (h : Chain l k L) : (∀ b ∈ L, (k : Int) ≤ b.at_) ∧ L.Pairwise fun a b => a.at_ + a.size ≤ b.at_ := by
  induction h with
  | nil => exact ⟨fun b hb => (by cases hb), .nil⟩
  | cons hk hs hc ih =>
    rename_i k L
    have hz := szN_ge hs
    have hst := stand_size hs
    refine ⟨fun b hb => ?_, List.pairwise_cons.2 ⟨fun b hb => ?_, ih.2⟩⟩
    · rcases List.mem_cons.1 hb with rfl | hb
      · exact Int.le_refl _
      · have := ih.1 b hb; omega
    · have := ih.1 b hb
      rw [stand_at, hst]; omega
theorem apart_of {L : List Hb} (h : L.Pairwise fun a b => a.at_ + a.size ≤ b.at_) {a b : Hb} (ha : a ∈ L) (hb : b ∈ L) : a = b ∨ a.at_ + a.size ≤ b.at_ ∨ b.at_ + b.size ≤ a.at_ := by
  induction h with
  | nil => cases ha
  | cons h1 _ ih =>
    rcases List.mem_cons.1 ha with e1 | ha
    · rcases List.mem_cons.1 hb with e2 | hb
      · exact .inl (e1.trans e2.symm)
      · rw [e1]; exact .inr (.inl (h1 b hb))
    · rcases List.mem_cons.1 hb with e2 | hb
      · rw [e2]; exact .inr (.inr (h1 a ha))
      · exact ih ha hb
/-- a block of a heap -/
theorem all_mem {l : List UInt64} (h : allErr l = 0) {b : Hb} (hb : b ∈ allL l) : ∃ a : Nat, 128 ≤ a ∧ a < l.length ∧ StOk l a ∧ b = stand l a ∧ a % 2 = 0 := by
  obtain ⟨a, h1, h2, h3, h4, h5⟩ := chain_mem (chain_iff.1 (parsed_ok.1 (allErr_ok h).2).1) b hb
  exact ⟨a, h1, h2, h3, h4, h5 rfl⟩
theorem all_apart {l : List UInt64} (h : allErr l = 0) {a b : Hb} (ha : a ∈ allL l) (hb : b ∈ allL l) : a = b ∨ a.at_ + a.size ≤ b.at_ ∨ b.at_ + b.size ≤ a.at_ :=
  apart_of (chain_apart (chain_iff.1 (parsed_ok.1 (allErr_ok h).2).1)).2 ha hb
theorem objs_mem {L : List Hb} {b : Hb} : b ∈ objs L ↔ b ∈ L ∧ b.kind = 1 := by unfold objs; rw [List.mem_filter]; simp
end Go.Proofs.YtmbokdnndlnjkaaGreat.L19
namespace Go.Proofs.YtmbokdnndlnjkaaGreat.L19
open L02 L07 L13 L14 L15 L18
theorem objs_at {l : List UInt64} (h : allErr l = 0) {b : Hb} (hb : b ∈ O19 l) : ∃ a : Nat, 128 ≤ a ∧ b.at_ = a ∧ b.size = szN l a ∧ a + szN l a ≤ l.length ∧ StOk l a ∧ b = stand l a ∧ b.kind = 1 ∧ 2 ≤ szN l a ∧ a % 2 = 0 := by
  obtain ⟨hm, hk⟩ := objs_mem.1 hb
  obtain ⟨a, h1, h2, h3, h4, h5⟩ := all_mem h hm
  have hz := szN_ge h3
  exact ⟨a, h1, by rw [h4]; rfl, by rw [h4]; exact stand_size h3, hz.2.2.2.1, h3, h4, hk, hz.1, h5⟩
/-- a word of an object behind its first two -/
theorem obj_set {l : List UInt64} (h : allErr l = 0) {b : Hb} (hb : b ∈ O19 l) {p : Nat} {v : UInt64} (h1 : b.at_ + 2 ≤ p) (h2 : (p : Int) < b.at_ + b.size) :
    allErr (l.set p v) = 0 ∧ allL (l.set p v) = allL l := by
  obtain ⟨hs, hp⟩ := allErr_ok h
  obtain ⟨hfr, hadj⟩ := parsed_ok.1 hp
  obtain ⟨hbm, hbk⟩ := objs_mem.1 hb
  have far : ∀ c ∈ allL l, c.at_ ≠ (p : Int) ∧ p ≠ c.at_.toNat + 1 := fun c hc => by
    obtain ⟨a, _, _, h3, h4, _⟩ := all_mem h hc
    have hz := szN_ge h3
    have hsz : c.size = szN l a := by rw [h4]; exact stand_size h3
    have hat : c.at_ = a := by rw [h4]; rfl
    rcases all_apart h hbm hc with rfl | h5 | h5 <;> omega
  have hc := chain_set (v := v) (chain_iff.1 hfr) (fun c hc => (far c hc).1)
  have hid : (allL l).map (fun c => { c with next := (l.set p v).getD (c.at_.toNat + 1) 0 }) = allL l := by
    refine List.map_congr_left (g := id) (fun c hc => ?_) |>.trans (List.map_id _)
    obtain ⟨a, _, _, h3, h4, _⟩ := all_mem h hc
    have hat : c.at_ = a := by rw [h4]; rfl
    show { c with next := (l.set p v).getD (c.at_.toNat + 1) 0 } = c
    rw [getD_set_ne (far c hc).2, hat, Int.toNat_natCast]
    rw [h4]; rfl
  rw [hid] at hc
  have hp2 : parsed (l.set p v) = some (allL l) := parsed_ok.2 ⟨from_chain hc, hadj⟩
  have he : allErr (l.set p v) = 0 := by unfold allErr; rw [List.length_set, if_pos hs, hp2]; rfl
  exact ⟨he, by rw [allL, if_pos he, hp2]; rfl⟩
/-- a right image, by its parts -/
structure Rt (l : List UInt64) : Prop where
  sz : SizeOk l.length
  tw : rErr l = 0
  z16 : Zr l 16
  z24 : Zr l 24
  ty : tabErr l (sT l) = 0
  sl : openErr l = 0
  al : allErr l = 0
  good : ∀ i, 7 ≤ i → i < 12 → AllGood l (T19 l) (O19 l) i
  slots : SlotsGood (slots l) (O19 l)
theorem Rt.of {l : List UInt64} (h : chk19 l = 0) : Rt l := by
  obtain ⟨hs, hw⟩ := chk19_ok h
  obtain ⟨h6, hg, hsl⟩ := why_zero.1 hw
  obtain ⟨a, b, c, d, e, f⟩ := why6_zero.1 h6
  exact ⟨hs, a, b, c, d, e, f, hg, hsl⟩
theorem Rt.why {l : List UInt64} (h : Rt l) : why l = 0 := why_zero.2 ⟨why6_zero.2 ⟨h.tw, h.z16, h.z24, h.ty, h.sl, h.al⟩, h.good, h.slots⟩
theorem Rt.chk {l : List UInt64} (h : Rt l) : chk19 l = 0 := by rw [chk19, if_pos h.sz, if_pos h.why]
/-- what a field must hold -/
def FdR (O : List Hb) (k : UInt8) (v : UInt64) : Prop := (k.toNat = 2 → L20.FloatOk v) ∧ (k.toNat = 3 → v = 0 ∨ IsObj O v.toNat)
/-- the parts of an image with another field -/
structure FS (l : List UInt64) (b : Hb) (i p : Nat) (v : UInt64) : Prop where
  tw : rErr (l.set p v) = 0
  sT : sT (l.set p v) = sT l
  z16 : Zr (l.set p v) 16
  z24 : Zr (l.set p v) 24
  ty : tabErr (l.set p v) (L07.sT l) = 0
  tyT : T19 (l.set p v) = T19 l
  sl : openErr (l.set p v) = 0
  slL : slots (l.set p v) = slots l
  al : allErr (l.set p v) = 0
  alL : allL (l.set p v) = allL l
  fwb : fw (l.set p v) b i = v
  fwo : ∀ c ∈ O19 l, ∀ j, j ≤ (kindsB (T19 l) c).length → ((kindsB (T19 l) c).length % 2 = 0 → j < (kindsB (T19 l) c).length) → (c ≠ b ∨ j ≠ i) → fw (l.set p v) c j = fw l c j
theorem Rt.fs {l : List UInt64} (h : Rt l) {b : Hb} (hb : b ∈ O19 l) {i p : Nat} (v : UInt64) (hi : i < (kindsB (T19 l) b).length) (hp : p = b.at_.toNat + 2 + i) : FS l b i p v := by
  obtain ⟨a, h1, h2, h3, h4, h5, h6, h7, h8, _⟩ := objs_at h.al hb
  have hsz := (h.good 8 (by omega) (by omega) b hb).2
  have hpb : b.at_ + 2 ≤ p ∧ (p : Int) < b.at_ + b.size := by omega
  have ho := obj_set (v := v) h.al hb hpb.1 hpb.2
  have a1 := rErr_set (l := l) (v := v) (p := p) (by omega)
  have a4 := tabErr_set (l := l) (v := v) (p := p) (by omega)
  have a5 := open_set (l := l) (v := v) (p := p) (by omega)
  refine ⟨a1.1.trans h.tw, a1.2.1, (zr_set (by omega)).2 h.z16, (zr_set (by omega)).2 h.z24, (a4 _).1.trans h.ty, by unfold T19; rw [a1.2.1, (a4 _).2], a5.1.trans h.sl, a5.2, ho.1, ho.2, ?_, ?_⟩
  · unfold fw; rw [← hp]; exact getD_set_self (by omega)
  · intro c hc j hj hj2 hne
    refine fw_set ?_
    obtain ⟨a', g1, g2, g3, g4, g5, g6, _, _, _⟩ := objs_at h.al hc
    have hsz' := (h.good 8 (by omega) (by omega) c hc).2
    rcases all_apart h.al (objs_mem.1 hb).1 (objs_mem.1 hc).1 with e | h5 | h5
    · subst e
      have := hne.resolve_left (fun h => h rfl)
      omega
    · omega
    · have : (kindsB (T19 l) c).length % 2 = 0 ∨ (kindsB (T19 l) c).length % 2 = 1 := by omega
      omega
/-- the reason of an image with another field -/
theorem FS.why {l : List UInt64} (h : Rt l) {b : Hb} (hb : b ∈ O19 l) {i p : Nat} {v : UInt64} {k : UInt8} (hi : i < (kindsB (T19 l) b).length) (hk : (kindsB (T19 l) b).getD i 0 = k) (f : FS l b i p v) :
    why (l.set p v) = if k.toNat = 2 ∧ ¬ L20.FloatOk v then 10 else if k.toNat = 3 ∧ ¬ (v = 0 ∨ IsObj (O19 l) v.toNat) then 11 else 0 := by
  have eO : O19 (l.set p v) = O19 l := by unfold O19; rw [f.alL]
  have h6 : why6 (l.set p v) = 0 := why6_zero.2 ⟨f.tw, f.z16, f.z24, by rw [f.sT]; exact f.ty, f.sl, f.al⟩
  have g7 : AllGood (l.set p v) (T19 l) (O19 l) 7 := h.good 7 (by omega) (by omega)
  have g8 : AllGood (l.set p v) (T19 l) (O19 l) 8 := h.good 8 (by omega) (by omega)
  have g9 : AllGood (l.set p v) (T19 l) (O19 l) 9 := fun c hc => by
    have := h.good 9 (by omega) (by omega) c hc
    show Padded _ _ _
    have this : Padded l (T19 l) c := this
    rcases this with h1 | h1
    · exact .inl h1
    · by_cases h2 : (kindsB (T19 l) c).length % 2 = 0
      · exact .inl h2
      · refine .inr ?_
        rw [f.fwo c hc _ (Nat.le_refl _) (fun e => absurd e h2)]
        · exact h1
        · by_cases e : c = b
          · subst e; right; omega
          · left; exact e
  have g10 : AllGood (l.set p v) (T19 l) (O19 l) 10 ↔ ¬ (k.toNat = 2 ∧ ¬ L20.FloatOk v) := by
    constructor
    · intro hh h2
      have := hh b hb i hi (by rw [hk]; exact h2.1)
      rw [f.fwb] at this; exact h2.2 this
    · intro hh c hc j hj hj2
      by_cases e : c = b ∧ j = i
      · obtain ⟨rfl, rfl⟩ := e
        rw [f.fwb]
        rw [hk] at hj2
        exact Decidable.not_not.1 fun h3 => hh ⟨hj2, h3⟩
      · rw [f.fwo c hc j (by omega) (fun _ => hj) (by
          by_cases e1 : c = b
          · right; exact fun e2 => e ⟨e1, e2⟩
          · left; exact e1)]
        exact h.good 10 (by omega) (by omega) c hc j hj hj2
  have g11 : AllGood (l.set p v) (T19 l) (O19 l) 11 ↔ ¬ (k.toNat = 3 ∧ ¬ (v = 0 ∨ IsObj (O19 l) v.toNat)) := by
    constructor
    · intro hh h2
      have := hh b hb i hi (by rw [hk]; exact h2.1)
      rw [f.fwb] at this; exact h2.2 this
    · intro hh c hc j hj hj2
      by_cases e : c = b ∧ j = i
      · obtain ⟨rfl, rfl⟩ := e
        rw [f.fwb]
        rw [hk] at hj2
        exact Decidable.not_not.1 fun h3 => hh ⟨hj2, h3⟩
      · rw [f.fwo c hc j (by omega) (fun _ => hj) (by
          by_cases e1 : c = b
          · right; exact fun e2 => e ⟨e1, e2⟩
          · left; exact e1)]
        exact h.good 11 (by omega) (by omega) c hc j hj hj2
  unfold L19.why
  rw [h6, eO, f.tyT, f.slL]
  simp only [whyO, if_pos g7, if_pos g8, if_pos g9]
  have hs := h.slots
  by_cases c2 : k.toNat = 2 ∧ ¬ L20.FloatOk v
  · rw [if_pos c2, if_neg (fun h => g10.1 h c2)]; rfl
  · rw [if_neg c2, if_pos (g10.2 c2)]
    by_cases c3 : k.toNat = 3 ∧ ¬ (v = 0 ∨ IsObj (O19 l) v.toNat)
    · rw [if_pos c3, if_neg (fun h => g11.1 h c3)]; rfl
    · rw [if_neg c3, if_pos (g11.2 c3)]
      simp [hs]
/-- an image with another right field is right -/
theorem FS.rt {l : List UInt64} (h : Rt l) {b : Hb} (hb : b ∈ O19 l) {i p : Nat} {v : UInt64} {k : UInt8} (hi : i < (kindsB (T19 l) b).length) (hk : (kindsB (T19 l) b).getD i 0 = k) (f : FS l b i p v) (hv : FdR (O19 l) k v) : Rt (l.set p v) := by
  refine Rt.of ?_
  rw [chk19, if_pos (by rw [List.length_set]; exact h.sz), if_pos]
  rw [f.why h hb hi hk, if_neg (fun e => e.2 (hv.1 e.1)), if_neg (fun e => e.2 (hv.2 e.1))]
end Go.Proofs.YtmbokdnndlnjkaaGreat.L19
namespace Go.Proofs.YtmbokdnndlnjkaaGreat
open Go.RowKit L01 L02 L05 L13 L14 L15 L18 L19
set_option maxHeartbeats 1000000 in
theorem float19_any (x : UInt64) (b : Bool) (hb : b = decide (L20.FloatOk x)) (w : World) : Calls Tryz.prog 135 #[.int .u64 x.toNat] w fun e w' => e = .returned (.bool b) ∧ Below w.heap.size w w' := by
  have B : Below w.heap.size w w := Below.refl _ _
  have hxl := toNat_lt x
  have e1 := and_int (a := (x.toNat : Int) / 4503599627370496) 11 (by omega) (by omega) 2047 (by decide) (by omega)
  rw [show ((2 ^ 11 : Nat) : Int) = 2048 from rfl] at e1
  have hwr : IntKind.u64.wrap ((x.toNat : Int) * 4096) = (x.toNat : Int) * 4096 % 18446744073709551616 := rfl
  have HB := Lib.hid hb; clear hb
  go_enter Tryz.func135, Tryz.ntmps135
  go_wp2
  all_goals
    go_ret
    refine ⟨ret_bool ?_, B⟩
    rw [HB.out]
    first
      | (rw [eq_comm, decide_eq_true_iff]; unfold L20.FloatOk; omega)
      | (rw [Bool.eq_iff_iff, decide_eq_true_iff]; simp only [Bool.or_eq_true, beq_iff_eq]; unfold L20.FloatOk; omega)
set_option maxRecDepth 100000 in
theorem zero19_any (v : Value) (l : List UInt64) (a : Nat) (b : Bool) (hb : b = decide (Zr l a)) (ha : a + 8 ≤ l.length) (hl : l.length ≤ 1000000) (w : World) (h : Words w v l) :
    Calls Tryz.prog 134 #[v, .int .i64 a] w fun e w' => e = .returned (.bool b) ∧ w = w' := by
  obtain ⟨dv, hcut, hW⟩ := h.cut (P := Tryz.prog) Tryz.underlying22 one_u64 (lo := (a : Int)) (hi := (a : Int) + 8) (by omega) (by omega) (by omega)
  obtain ⟨m, hm⟩ : ∃ m, m = (l.drop a).take 8 := ⟨_, rfl⟩
  have hW' : Words w dv m := by
    rw [hm]
    rw [show ((a : Int) + 8).toNat - (a : Int).toNat = 8 by omega, Int.toNat_natCast] at hW
    exact hW
  have hlm : m.length = 8 := by rw [hm, List.length_take, List.length_drop]; omega
  have ln := Rd.len hW' Tryz.underlying22
  rw [hlm] at ln
  have hget : ∀ i x, m[i]? = some x → l.getD (a + i) 0 = x := fun i x hx => by
    rw [hm] at hx
    have hi : i < 8 := by have := (List.getElem?_eq_some_iff.1 hx).1; simp at this; omega
    rw [List.getElem?_take_of_lt hi, List.getElem?_drop] at hx
    rw [List.getD_eq_getElem?_getD, hx]; rfl
  have hw8 : IntKind.i64.wrap ((a : Int) + 8) = (a : Int) + 8 := IntWalk.i64_in _ (by omega)
  have HB := Lib.hid hb; have HG := Lib.hid hget; have HL := Lib.hid hlm
  clear hb hget hlm hW hm h
  go_enter Tryz.func134, Tryz.ntmps134
  go_wp2
  go_loopg [13] 8 (fun g i wr => ∃ j : Nat, j ≤ 8 ∧ g = 8 - j ∧ i = .int .i64 j ∧ wr = w ∧ Hid (∀ i, i < j → l.getD (a + i) 0 = 0))
  case atStart => exact ⟨0, by omega, rfl, rfl, rfl, Lib.hid (fun i hi => by omega)⟩
  case round =>
    obtain ⟨j, hj, rfl, rfl, rfl, hz⟩ := hrel
    by_cases hlt : j < 8
    · obtain ⟨ad, x, ia, m0, hx⟩ := hW'.at_ (P := Tryz.prog) Tryz.underlying22 one_u64 (k := j) (by rw [HL.out]; exact hlt)
      have hgx := HG.out j x hx.out
      by_cases hx0 : x = 0
      · have h0 : ((x.toNat : Int) != 0) = false := by rw [hx0]; rfl
        have HZ : Hid (∀ i, i < j + 1 → l.getD (a + i) 0 = 0) := Lib.hid (fun i hi => by
          by_cases e : i = j
          · subst e; rw [hgx, hx0]
          · exact hz.out i (by omega))
        clear hgx hx0
        go_wp2
        go_roundg (8 - (j + 1))
        case measure => omega
        case rel => exact ⟨j + 1, by omega, rfl, by go_num, rfl, HZ⟩
      · have h0 : ((x.toNat : Int) != 0) = true := by rw [bne_iff_ne]; intro e; exact hx0 (UInt64.toNat.inj (by simp; omega))
        have hb : b = false := by rw [HB.out, decide_eq_false_iff_not]; exact fun h => hx0 (by rw [← hgx]; exact h j hlt)
        subst hb
        clear hgx hx0
        go_wp2
        go_ret
        exact ⟨rfl, rfl⟩
    · obtain rfl : j = 8 := by omega
      have hb : b = true := by rw [HB.out, decide_eq_true_iff]; exact hz.out
      subst hb
      go_wp2
      go_ret
      exact ⟨rfl, rfl⟩
/-- what is known of an image: its words, its types, its slots, its objects and their addresses -/
structure Sg (W : World) (v tv sv bv : Value) (g n : Nat) (l : List UInt64) (T : List (List UInt8)) (S : List Sl) (O : List Hb) : Prop where
  w : Words W v l
  t : Typs W tv T
  s : Slots W sv S
  b : Blks W bv O
  m : MapL Tryz.prog 3 4 (.bool false) W g n (fun a => .bool (decide (IsObj O a)))
theorem Sg.below {W W' : World} {v tv sv bv : Value} {g n : Nat} {l : List UInt64} {T : List (List UInt8)} {S : List Sl} {O : List Hb} (h : Sg W v tv sv bv g n l T S O) (hb : Below W.heap.size W W') : Sg W' v tv sv bv g n l T S O :=
  ⟨h.w.below hb, h.t.below hb, Slots.below h.s hb, h.b.below hb, h.m.below hb⟩
theorem zero_bool (W : World) : (zeroValue 4).run Tryz.prog W = .ok (.bool false) W := by kernel_rfl
theorem Sg.look {W : World} {v tv sv bv : Value} {g n : Nat} {l : List UInt64} {T : List (List UInt8)} {S : List Sl} {O : List Hb} (h : Sg W v tv sv bv g n l T S O) {a : Int} (ha : i64Ok a) :
    (Instr.lookup 156 (.map (some g)) (.int .i64 a) false).run Tryz.prog W = .ok (.bool (decide (IsObj O a))) W := h.m.lookB Tryz.underlying3 Tryz.underlying156 Tryz.underlying4 (zero_bool W) ha
/-- an object lies in its image -/
def In19 (l : List UInt64) (b : Hb) : Prop := ∃ a : Nat, b.at_ = a ∧ BkOk b ∧ (a : Int) + b.size ≤ l.length
set_option maxRecDepth 100000 in
set_option maxHeartbeats 1000000 in
theorem idleB_any (v tv sv bv : Value) (g : Nat) (b : Hb) (c : Bool) (hc : c = decide (Idle b)) (w : World) :
    Calls Tryz.prog 85 #[.agg #[v, tv, sv, bv, .map (some g)], .agg #[.int .i64 b.at_, .int .i64 b.size, .int .i64 b.kind, .int .i64 b.ty, .bool b.mark, .int .u64 b.next.toNat]] w fun e w' => e = .returned (.bool c) ∧ Below w.heap.size w w' := by
  have B : Below w.heap.size w w := Below.refl _ _
  have HC := Lib.hid hc; clear hc
  obtain ⟨at_, size, kind, ty, mark, next⟩ := b
  dsimp only at *
  have hn0 : ((next.toNat : Int) == 0) = decide (next = 0) := by
    rw [Bool.eq_iff_iff, beq_iff_eq, decide_eq_true_iff]
    exact ⟨fun e => UInt64.toNat.inj (by simp; omega), fun e => by rw [e]; rfl⟩
  obtain ⟨q, hq⟩ : ∃ q, q = decide (next = 0) := ⟨_, rfl⟩
  rw [← hq] at hn0
  have hc : c = (!mark && q) := by rw [HC.out, hq]; unfold Idle; cases mark <;> simp
  clear HC hq
  cases mark
  all_goals
    go_enter Tryz.func85, Tryz.ntmps85
    go_wp2
    go_ret
    refine ⟨by rw [hc]; rfl, ?_⟩
    (repeat (first | refine Below.setCell ?_ (by first | exact Nat.le_refl _ | (simp <;> omega)) _ | refine Below.alloc ?_ (by first | exact B.size | (have := B.size; simp <;> omega)) _)); exact B
set_option maxRecDepth 100000 in
set_option maxHeartbeats 1000000 in
theorem typedB_any (v tv sv bv : Value) (g : Nat) (T : List (List UInt8)) (b : Hb) (c : Bool) (hc : c = decide (Typed T b)) (h0 : 0 ≤ b.ty) (hT : ∀ t ∈ T, kErr t = 0) (w : World) (h : Typs w tv T) :
    Calls Tryz.prog 86 #[.agg #[v, tv, sv, bv, .map (some g)], .agg #[.int .i64 b.at_, .int .i64 b.size, .int .i64 b.kind, .int .i64 b.ty, .bool b.mark, .int .u64 b.next.toNat]] w fun e w' => e = .returned (.bool c) ∧ Below w.heap.size w w' := by
  have B : Below w.heap.size w w := Below.refl _ _
  have lt := h.len
  obtain ⟨NT, hNT⟩ : ∃ N, N = T.length := ⟨_, rfl⟩
  rw [← hNT] at lt
  by_cases hlt : b.ty < T.length
  · obtain ⟨q, hq⟩ := Int.eq_ofNat_of_zero_le h0
    obtain ⟨at_, size, kind, ty, mark, next⟩ := b
    dsimp only at *
    subst hq
    have hqT : q < T.length := by omega
    obtain ⟨ad, x, t, it, m0, ht, hx⟩ := h.at_ (k := q) hqT
    have hk : kErr t = 0 := hT t (List.mem_of_getElem? ht.out)
    obtain ⟨n, hn⟩ : ∃ n, n = kSize t := ⟨_, rfl⟩
    have KT := Lib.hid (fun w h => KSize_any x t n 0 hn hk.symm w h)
    have hck : c = decide (n = size) := by
      rw [hc, Bool.eq_iff_iff, decide_eq_true_iff, decide_eq_true_iff]
      unfold Typed kindsB
      rw [Int.toNat_natCast, List.getD_eq_getElem?_getD, ht.out, hn, kSize, if_pos hk]
      simp only [Option.getD_some]
      exact ⟨fun h => h.2.symm, fun h => ⟨hlt, h.symm⟩⟩
    have n1 : ¬ (NT : Int) ≤ (q : Int) := by omega
    have HX := hx
    have HC := Lib.hid hck
    clear hc hT hk hn ht hx hck hlt hqT h0 hNT
    go_enter Tryz.func86, Tryz.ntmps86
    go_upto_region 1 with (fail)
    refine wp_gen (fun Wv => Bx Wv (w.heap.size) (158) (#[v, tv, sv, bv, .map (some g)]) ∧ Bx Wv (w.heap.size + 1) (82) (#[.int .i64 at_, .int .i64 size, .int .i64 kind, .int .i64 q, .bool mark, .int .u64 next.toNat]) ∧ Below w.heap.size w Wv) ⟨(((Bx.at_ (by simp)).alloc _)), ((Bx.at_ (by simp))), (((Below.refl _ w).alloc (by simp <;> omega) _).alloc (by simp <;> omega) _)⟩ ?_
    rintro wa1 ⟨g1, g2, b⟩
    replace m0 := cell_later b m0; replace B := B.trans (b.mono B.size); clear b
    have c_g1 := g1.cell; have f_g1 := g1.free; have a_g1 := fun o => (g1.alloc o).cell; have d_g1 := fun o o2 => ((g1.alloc o).alloc o2).cell; have e_g1 := fun o => (g1.alloc o).free
    have c_g2 := g2.cell; have f_g2 := g2.free; have a_g2 := fun o => (g2.alloc o).cell; have d_g2 := fun o o2 => ((g2.alloc o).alloc o2).cell; have e_g2 := fun o => (g2.alloc o).free
    go_wp2_with fail
    refine (KT.out _ (Byts.below HX.out B)).mono ?_
    rintro e w' ⟨rfl, rfl⟩
    go_wp2
    go_ret
    refine ⟨ret_bool ?_, B⟩
    rw [HC.out, Bool.eq_iff_iff, beq_iff_eq, decide_eq_true_iff]
  · have hc0 : c = false := by rw [hc, decide_eq_false_iff_not]; exact fun h => hlt h.1
    obtain ⟨at_, size, kind, ty, mark, next⟩ := b
    dsimp only at *
    have n1 : (NT : Int) ≤ ty := by omega
    subst hc0
    clear hc hT hlt hNT h
    go_enter Tryz.func86, Tryz.ntmps86
    go_upto_region 1 with (fail)
    refine wp_gen (fun Wv => Bx Wv (w.heap.size) (158) (#[v, tv, sv, bv, .map (some g)]) ∧ Bx Wv (w.heap.size + 1) (82) (#[.int .i64 at_, .int .i64 size, .int .i64 kind, .int .i64 ty, .bool mark, .int .u64 next.toNat]) ∧ Below w.heap.size w Wv) ⟨(((Bx.at_ (by simp)).alloc _)), ((Bx.at_ (by simp))), (((Below.refl _ w).alloc (by simp <;> omega) _).alloc (by simp <;> omega) _)⟩ ?_
    rintro wa1 ⟨g1, g2, b⟩
    replace B := B.trans (b.mono B.size); clear b
    have c_g1 := g1.cell; have f_g1 := g1.free; have a_g1 := fun o => (g1.alloc o).cell; have d_g1 := fun o o2 => ((g1.alloc o).alloc o2).cell; have e_g1 := fun o => (g1.alloc o).free
    have c_g2 := g2.cell; have f_g2 := g2.free; have a_g2 := fun o => (g2.alloc o).cell; have d_g2 := fun o o2 => ((g2.alloc o).alloc o2).cell; have e_g2 := fun o => (g2.alloc o).free
    go_wp2
    go_ret
    exact ⟨rfl, B⟩
end Go.Proofs.YtmbokdnndlnjkaaGreat
