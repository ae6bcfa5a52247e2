/- Handles that there were, in an image that changes: plain facts for the law HandlesOnce. Nothing of the program. -/
import Derived.Test.YteiocllnhljpjaaL18b
set_option linter.unusedVariables false
set_option linter.unusedSimpArgs false
namespace Go.Proofs.Yteiocllnhljpjaa.L18
open L02

/-- all handles H (slot, generation) that there were; which of them are right: V -/
structure Once (l : List UInt64) (H : List (Int × Int)) (V : List Bool) : Prop where
  op : openErr l = 0
  len : H.length = V.length
  nd : H.Nodup
  ok : ∀ (k : Nat) (h : Int × Int) (v : Bool), H[k]? = some h → V[k]? = some v → (v = true ↔ resErr l h.1 h.2 = 0)
  lo : ∀ h ∈ H, ∃ (j : Nat) (s : Sl), j < 16 ∧ h.1 = (j : Int) ∧ (slots l)[j]? = some s ∧ h.2 ≤ s.gen

theorem Once.nil {l : List UInt64} (h : openErr l = 0) : Once l [] [] := ⟨h, rfl, List.nodup_nil, fun k h v hk => by simp at hk, fun h hh => by simp at hh⟩

theorem snoc_get {α : Type} {L : List α} {x y : α} {k : Nat} (h : (L ++ [x])[k]? = some y) : L[k]? = some y ∨ k = L.length ∧ y = x := by
  by_cases hk : k < L.length
  · rw [List.getElem?_append_left hk] at h; exact .inl h
  · rw [List.getElem?_append_right (by omega)] at h
    by_cases h0 : k - L.length = 0
    · rw [h0] at h; simp at h; exact .inr ⟨by omega, h.symm⟩
    · rw [show k - L.length = (k - L.length - 1) + 1 by omega] at h; simp at h
theorem nodup_at {α : Type} : ∀ {L : List α} {i j : Nat} {x : α}, L.Nodup → L[i]? = some x → L[j]? = some x → i = j
  | [], i, j, x, _, h, _ => by simp at h
  | y :: L, 0, 0, x, _, _, _ => rfl
  | y :: L, 0, j + 1, x, hn, h1, h2 => by
    simp at h1 h2; subst h1
    exact absurd (List.mem_of_getElem? h2) (List.nodup_cons.1 hn).1
  | y :: L, i + 1, 0, x, hn, h1, h2 => by
    simp at h1 h2; subst h2
    exact absurd (List.mem_of_getElem? h1) (List.nodup_cons.1 hn).1
  | y :: L, i + 1, j + 1, x, hn, h1, h2 => by
    exact congrArg (· + 1) (nodup_at (List.nodup_cons.1 hn).2 (by simpa using h1) (by simpa using h2))
theorem nodup_snoc {α : Type} {L : List α} {x : α} (h : L.Nodup) (hx : x ∉ L) : (L ++ [x]).Nodup := by
  rw [List.nodup_append]
  refine ⟨h, by simp, ?_⟩
  intro a ha b hb e
  simp at hb
  exact hx (by rw [← hb, ← e]; exact ha)

/-- one more handle that is right -/
theorem Once.add {l : List UInt64} {H : List (Int × Int)} {V : List Bool} (o : Once l H V) {j : Nat} {s : Sl} (hj : (slots l)[j]? = some s) (hu : s.used = true) (hn : ((j : Int), s.gen) ∉ H) : Once l (H ++ [((j : Int), s.gen)]) (V ++ [true]) := by
  have hk : j < 16 := by have := (List.getElem?_eq_some_iff.1 hj).1; rw [slots_len' o.op] at this; exact this
  have hr := (resErr_at o.op hj s.gen).1
  rw [if_pos ⟨hu, rfl⟩] at hr
  refine ⟨o.op, by simp [o.len], nodup_snoc o.nd hn, fun k h v h1 h2 => ?_, fun h hh => ?_⟩
  · rcases snoc_get h1 with h1 | ⟨h1, rfl⟩
    · rcases snoc_get h2 with h2 | ⟨h2, rfl⟩
      · exact o.ok k h v h1 h2
      · have := (List.getElem?_eq_some_iff.1 h1).1; have := o.len; omega
    · rcases snoc_get h2 with h2 | ⟨h2, rfl⟩
      · have := (List.getElem?_eq_some_iff.1 h2).1; have := o.len; omega
      · exact ⟨fun _ => hr, fun _ => rfl⟩
  · rcases List.mem_append.1 hh with hh | hh
    · exact o.lo h hh
    · simp at hh; subst hh; exact ⟨j, s, hk, rfl, hj, Int.le_refl _⟩
/-- a handle of a slot that comes behind all is none of them -/
theorem fresh_of_lt {H : List (Int × Int)} {j : Nat} {g : Int} (h : ∀ x ∈ H, x.1 < (j : Int)) : ((j : Int), g) ∉ H := fun hx => by have := h _ hx; simp at this

/-- a handle that is dropped -/
theorem Once.drop {l : List UInt64} {H : List (Int × Int)} {V : List Bool} (o : Once l H V) {c : Nat} {a g : Int} (hc : H[c]? = some (a, g)) (h0 : resErr l a g = 0) :
    ∃ j : Nat, j < 16 ∧ dropAt l a g = 112 + (j : Int) ∧ Once (l.set (112 + j) (dropVal l a g)) H (V.set c false) := by
  obtain ⟨_, j, s, hj, rfl, hs, hu, rfl, hR, _⟩ := resErr_ok h0
  have e1 : dropAt l j s.gen = 112 + (j : Int) := by rw [dropAt, if_pos h0]
  have e2 : dropVal l j s.gen = pk ⟨s.gen, false, 0⟩ := by rw [dropVal, if_pos h0]
  have hR' : Right ⟨s.gen, false, 0⟩ := ⟨hR.1, hR.2.1, fun _ => rfl, fun h => by cases h⟩
  have e3 : spl (dropVal l j s.gen) = ⟨s.gen, false, 0⟩ := by rw [e2, spl_pk hR']
  generalize hx : dropVal l j s.gen = x at *
  have e4 : openErr (l.set (112 + j) x) = 0 := openErr_set o.op hj (by rw [e3]; exact hR')
  have e5 := set_at (x := x) o.op hj
  rw [e3] at e5
  refine ⟨j, hj, e1, e4, by simp [o.len], o.nd, fun k h v h1 h2 => ?_, fun h hh => ?_⟩
  · obtain ⟨i, t, hi, hia, ht, hle⟩ := o.lo h (List.mem_of_getElem? h1)
    obtain ⟨ha, hg⟩ := h
    simp only at hia hle ⊢
    subst hia
    rw [List.getElem?_set] at h2
    by_cases hij : i = j
    · subst hij
      rw [(resErr_at e4 e5 hg).1, if_neg (by simp)]
      have hv : v = false := by
        split at h2
        · split at h2
          · simpa using h2.symm
          · simp at h2
        · rename_i hck
          cases hv : v with
          | false => rfl
          | true =>
            have h3 := (o.ok k _ v h1 h2).1 hv
            simp only at h3
            rw [(resErr_at o.op ht hg).1] at h3
            split at h3
            · rename_i h4
              rw [hs] at ht
              injection ht with ht
              subst ht
              have h5 : c = k := nodup_at o.nd hc (by rw [h1, h4.2])
              omega
            · omega
      subst hv
      simp
    · have e6 : (slots (l.set (112 + j) x))[i]? = some t := by rw [set_ne hj hij]; exact ht
      rw [(resErr_at e4 e6 hg).1, ← (resErr_at o.op ht hg).1]
      split at h2
      · rename_i hck
        subst hck
        rw [hc] at h1
        simp at h1
        omega
      · exact o.ok k _ v h1 h2
  · obtain ⟨i, t, hi, hia, ht, hle⟩ := o.lo h hh
    by_cases hij : i = j
    · subst hij
      rw [hs] at ht
      injection ht with ht
      subst ht
      exact ⟨i, _, hi, hia, e5, hle⟩
    · exact ⟨i, t, hi, hia, by rw [set_ne hj hij]; exact ht, hle⟩

theorem Once.same {l : List UInt64} {H : List (Int × Int)} {V : List Bool} (o : Once l H V) {c : Nat} (hc : V[c]? = some false) : Once l H (V.set c false) := by
  have : V.set c false = V := by
    apply List.ext_getElem?
    intro i
    rw [List.getElem?_set]
    split
    · rename_i h; subst h
      rw [if_pos (List.getElem?_eq_some_iff.1 hc).1, hc]
    · rfl
  rw [this]; exact o
theorem Once.eq {l : List UInt64} {H : List (Int × Int)} {V : List Bool} (o : Once l H V) {k : Nat} {a g : Int} {v : Bool} (h1 : H[k]? = some (a, g)) (h2 : V[k]? = some v) : (resErr l a g == 0) = v := by
  have := o.ok k _ v h1 h2
  cases v
  · rw [beq_eq_false_iff_ne]; intro h; simp at this; exact this h
  · rw [beq_iff_eq]; exact this.1 rfl
theorem Once.ne {H : List (Int × Int)} {k : Nat} {a g b f : Int} (h1 : H[k]? = some (a, g)) (hn : (b, f) ∉ H) : false = (a == b && g == f) := by
  symm
  rw [Bool.and_eq_false_iff]
  by_cases h : a = b
  · right; rw [beq_eq_false_iff_ne]; intro h'; subst h h'; exact hn (List.mem_of_getElem? h1)
  · left; rw [beq_eq_false_iff_ne]; exact h

/-- a new handle -/
theorem Once.new {l : List UInt64} {H : List (Int × Int)} {V : List Bool} (o : Once l H V) {a : Int} (h0 : newErr l a = 0) :
    ∃ j : Nat, j < 16 ∧ newSlot l a = (j : Int) ∧ newAt l a = 112 + (j : Int) ∧ ((j : Int), newGen l a) ∉ H ∧ Once (l.set (112 + j) (newVal l a)) (H ++ [((j : Int), newGen l a)]) (V ++ [true]) := by
  obtain ⟨j, s, hj, hs, hu, hm, hR, hR', q1, q2, q3, q4, q5⟩ := new_spec h0
  have e3 : spl (newVal l a) = ⟨s.gen + 1, true, a⟩ := by rw [q4, spl_pk hR']
  rw [q2]
  generalize hx : newVal l a = x at *
  have e4 : openErr (l.set (112 + j) x) = 0 := openErr_set o.op hj (by rw [e3]; exact hR')
  have e5 := set_at (x := x) o.op hj
  rw [e3] at e5
  have hnot : ((j : Int), s.gen + 1) ∉ H := by
    intro hh
    obtain ⟨i, t, hi, hia, ht, hle⟩ := o.lo _ hh
    simp only at hia hle
    have hij : i = j := by omega
    subst hij
    rw [hs] at ht
    injection ht with ht
    subst ht
    omega
  have oo : Once (l.set (112 + j) x) H V := by
    refine ⟨e4, o.len, o.nd, fun k h v h1 h2 => ?_, fun h hh => ?_⟩
    · obtain ⟨i, t, hi, hia, ht, hle⟩ := o.lo h (List.mem_of_getElem? h1)
      have hok := o.ok k h v h1 h2
      obtain ⟨ha, hg⟩ := h
      simp only at hia hle hok ⊢
      subst hia
      by_cases hij : i = j
      · subst hij
        rw [hs] at ht
        injection ht with ht
        subst ht
        rw [(resErr_at o.op hs hg).1, if_neg (by simp [hu])] at hok
        rw [(resErr_at e4 e5 hg).1, if_neg (by simp; omega)]
        exact hok
      · have e6 : (slots (l.set (112 + j) x))[i]? = some t := by rw [set_ne hj hij]; exact ht
        rw [(resErr_at e4 e6 hg).1, ← (resErr_at o.op ht hg).1]
        exact hok
    · obtain ⟨i, t, hi, hia, ht, hle⟩ := o.lo h hh
      by_cases hij : i = j
      · subst hij
        rw [hs] at ht
        injection ht with ht
        subst ht
        exact ⟨i, _, hi, hia, e5, by simp; omega⟩
      · exact ⟨i, t, hi, hia, by rw [set_ne hj hij]; exact ht, hle⟩
  exact ⟨j, hj, q1, q3, hnot, oo.add (s := ⟨s.gen + 1, true, a⟩) e5 rfl hnot⟩
end Go.Proofs.Yteiocllnhljpjaa.L18
