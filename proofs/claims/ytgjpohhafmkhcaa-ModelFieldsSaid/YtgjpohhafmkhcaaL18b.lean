/- Slots of an image with one word changed; plain facts. Nothing of the program. -/
import Derived.Test.YtgjpohhafmkhcaaL18
set_option linter.unusedVariables false
set_option linter.unusedSimpArgs false
namespace Go.Proofs.Ytgjpohhafmkhcaa.L18
open L02

theorem ws_set {l : List UInt64} {k : Nat} (x : UInt64) (hk : k < 16) : ws (l.set (112 + k) x) = (ws l).set k x := by
  unfold ws
  rw [List.drop_set, if_neg (by omega), show 112 + k - 112 = k by omega, List.take_set]
theorem slots_set {l : List UInt64} {k : Nat} (x : UInt64) (hk : k < 16) : slots (l.set (112 + k) x) = (slots l).set k (spl x) := by
  unfold slots
  rw [ws_set x hk, List.map_set]
theorem size_of {l : List UInt64} (h : openErr l = 0) : SizeOk l.length := by
  unfold openErr at h
  split at h
  · assumption
  · omega
theorem allR_of {l : List UInt64} (h : openErr l = 0) : AllR l := by
  unfold openErr at h
  split at h
  · split at h
    · assumption
    · omega
  · omega
theorem openErr_set {l : List UInt64} {k : Nat} {x : UInt64} (h : openErr l = 0) (hk : k < 16) (hx : Right (spl x)) : openErr (l.set (112 + k) x) = 0 := by
  have h1 := size_of h
  have h2 := allR_of h
  unfold openErr
  rw [List.length_set, if_pos h1, if_pos]
  intro y hy
  rw [ws_set x hk] at hy
  rcases List.mem_or_eq_of_mem_set hy with h3 | rfl
  · exact h2 y h3
  · exact hx
theorem slots_len' {l : List UInt64} (h : openErr l = 0) : (slots l).length = 16 := by
  have := (size_of h).1
  simp [slots, ws]; omega
theorem newErr_ok {l : List UInt64} {a : Int} (h : newErr l a = 0) : openErr l = 0 ∧ (128 ≤ a ∧ a < 2048) ∧ ∃ k, next (slots l) = some k := by
  unfold newErr at h
  split at h
  · rename_i h0
    split at h
    · rename_i h1
      split at h
      · omega
      · rename_i h2
        exact ⟨h0, h1, Option.ne_none_iff_exists'.1 h2⟩
    · omega
  · rename_i h0; exact absurd h h0
theorem nextFrom_some : ∀ {L : List Sl} {j k : Nat}, nextFrom L j = some k → j ≤ k ∧ (∃ s, L[k - j]? = some s ∧ s.used = false ∧ s.gen ≠ 2147483647) ∧ ∀ i s, i < k - j → L[i]? = some s → ¬ (s.used = false ∧ s.gen ≠ 2147483647)
  | [], _, _, h => by cases h
  | s :: L, j, k, h => by
    rw [nextFrom] at h
    split at h
    · rename_i h2
      injection h with h
      subst h
      exact ⟨Nat.le_refl _, ⟨s, by simp, h2⟩, fun i t hi => by omega⟩
    · rename_i h2
      obtain ⟨h1, ⟨t, h3, h4⟩, h5⟩ := nextFrom_some h
      refine ⟨by omega, ⟨t, by rw [show k - j = (k - (j + 1)) + 1 by omega, List.getElem?_cons_succ]; exact h3, h4⟩, fun i u hi hu => ?_⟩
      cases i with
      | zero => simp at hu; subst hu; exact h2
      | succ i => exact h5 i u (by omega) (by simpa using hu)
/-- what a new handle is -/
theorem new_spec {l : List UInt64} {a : Int} (h : newErr l a = 0) : ∃ (k : Nat) (s : Sl), k < 16 ∧ (slots l)[k]? = some s ∧ s.used = false ∧ s.gen ≠ 2147483647 ∧ Right s ∧ Right ⟨s.gen + 1, true, a⟩ ∧ newSlot l a = (k : Int) ∧ newGen l a = s.gen + 1 ∧ newAt l a = 112 + (k : Int) ∧ newVal l a = pk ⟨s.gen + 1, true, a⟩ ∧
    ∀ i t, i < k → (slots l)[i]? = some t → ¬ (t.used = false ∧ t.gen ≠ 2147483647) := by
  obtain ⟨h0, ha, k, hk⟩ := newErr_ok h
  obtain ⟨_, ⟨s, h1, h2, h3⟩, h4⟩ := nextFrom_some hk
  rw [Nat.sub_zero] at h1 h4
  have hk16 : k < 16 := by have := (List.getElem?_eq_some_iff.1 h1).1; rw [slots_len' h0] at this; exact this
  have hR : Right s := by
    obtain ⟨x, hx, hxs⟩ := List.mem_map.1 (List.mem_of_getElem? h1)
    rw [← hxs]; exact allR_of h0 x hx
  have e2 : newGen l a = s.gen + 1 := by rw [newGen, if_pos h, hk]; simp [List.getD_eq_getElem?_getD, h1]
  have g0 := hR.1; have g1 := hR.2.1
  refine ⟨k, s, hk16, h1, h2, h3, hR, ⟨by show 0 ≤ s.gen + 1; omega, by show s.gen + 1 ≤ 2147483647; omega, by simp, fun _ => ⟨by show 0 < s.gen + 1; omega, ha.1, ha.2⟩⟩, ?_, e2, ?_, ?_, h4⟩
  · rw [newSlot, if_pos h, hk]; rfl
  · rw [newAt, if_pos h, hk]; rfl
  · rw [newVal, if_pos h, e2]
theorem resErr_ok {l : List UInt64} {sl g : Int} (h : resErr l sl g = 0) : openErr l = 0 ∧ ∃ (k : Nat) (s : Sl), k < 16 ∧ sl = (k : Int) ∧ (slots l)[k]? = some s ∧ s.used = true ∧ s.gen = g ∧ Right s ∧ res l sl g = s.at_ := by
  have hr := h
  unfold resErr at h
  split at h
  · rename_i h0
    unfold rightErr at h
    rw [slots_len' h0] at h
    split at h
    · rename_i h1
      split at h
      · rename_i h2
        obtain ⟨k, rfl⟩ := Int.eq_ofNat_of_zero_le h1.1
        have hk : k < 16 := by omega
        have hs : (slots l)[k]? = some ((slots l)[k]'(by rw [slots_len' h0]; exact hk)) := List.getElem?_eq_getElem _
        have hgd : (slots l).getD (k : Int).toNat .none = (slots l)[k]'(by rw [slots_len' h0]; exact hk) := by simp [List.getD_eq_getElem?_getD, hs]
        rw [hgd] at h2
        refine ⟨h0, k, _, hk, rfl, hs, h2.1, h2.2, ?_, by rw [res, if_pos hr, hgd]⟩
        obtain ⟨x, hx, hxs⟩ := List.mem_map.1 (List.mem_of_getElem? hs)
        rw [← hxs]; exact allR_of h0 x hx
      · omega
    · omega
  · rename_i h0; exact absurd h h0
theorem resErr_at {l : List UInt64} {k : Nat} {s : Sl} (h : openErr l = 0) (hs : (slots l)[k]? = some s) (g : Int) : resErr l k g = (if s.used = true ∧ s.gen = g then 0 else 28) ∧ (s.used = true → s.gen = g → res l k g = s.at_) := by
  have hk : k < 16 := by have := (List.getElem?_eq_some_iff.1 hs).1; rw [slots_len' h] at this; exact this
  have hgd : (slots l).getD (k : Int).toNat .none = s := by simp [List.getD_eq_getElem?_getD, hs]
  have e : resErr l k g = (if s.used = true ∧ s.gen = g then 0 else 28) := by
    rw [resErr, if_pos h, rightErr, if_pos ⟨by omega, by rw [slots_len' h]; omega⟩, hgd]
  exact ⟨e, fun h1 h2 => by rw [res, e, if_pos (if_pos ⟨h1, h2⟩), hgd]⟩
theorem set_at {l : List UInt64} {k : Nat} {x : UInt64} (h : openErr l = 0) (hk : k < 16) : (slots (l.set (112 + k) x))[k]? = some (spl x) := by
  rw [slots_set x hk, List.getElem?_set_self (by rw [slots_len' h]; exact hk)]
theorem set_ne {l : List UInt64} {k i : Nat} {x : UInt64} (hk : k < 16) (hi : i ≠ k) : (slots (l.set (112 + k) x))[i]? = (slots l)[i]? := by
  rw [slots_set x hk, List.getElem?_set_ne (fun h => hi h.symm)]
end Go.Proofs.Ytgjpohhafmkhcaa.L18
