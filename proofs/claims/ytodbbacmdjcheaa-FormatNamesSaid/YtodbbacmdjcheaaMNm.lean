/- Contracts of the functions that the laws 'N' reach, part 13. No condition. -/
import Derived.Test.YtodbbacmdjcheaaMNl
set_option linter.unusedVariables false
set_option linter.unusedSimpArgs false
namespace Go.Proofs.Ytodbbacmdjcheaa.L19
open L02 L07 L13 L14 L15 L16 L18 L20
theorem objs_pair {l : List UInt64} (h : allErr l = 0) : (O19 l).Pairwise fun a b => a.at_ + a.size ≤ b.at_ := by
  unfold O19 objs
  exact List.Pairwise.filter _ (chain_apart (chain_iff.1 (parsed_ok.1 (allErr_ok h).2).1)).2
theorem objs_idx {l : List UInt64} (h : allErr l = 0) {i j : Nat} {b : Hb} (hi : (O19 l)[i]? = some b) (hj : (O19 l)[j]? = some b) : i = j := by
  have hp := List.pairwise_iff_getElem.1 (objs_pair h)
  obtain ⟨a, _, _, h3, _, _, _, _, h8, _⟩ := objs_at h (List.mem_of_getElem? hi)
  obtain ⟨i1, i2⟩ := List.getElem?_eq_some_iff.1 hi
  obtain ⟨j1, j2⟩ := List.getElem?_eq_some_iff.1 hj
  rcases Nat.lt_trichotomy i j with hlt | e | hlt
  · have := hp i j i1 j1 hlt
    rw [i2, j2] at this; omega
  · exact e
  · have := hp j i j1 i1 hlt
    rw [i2, j2] at this; omega
theorem idx_app : ∀ {A B : List Hb} {a : Int}, idx (A ++ B) a = match idx A a with | some i => some i | none => (idx B a).map (· + A.length)
  | [], B, a => by
    show idx B a = (idx B a).map (· + 0)
    cases idx B a <;> rfl
  | b :: A, B, a => by
    rw [List.cons_append, idx, idx]
    by_cases h : b.at_ = a
    · rw [if_pos h, if_pos h]
    · rw [if_neg h, if_neg h, idx_app]
      cases idx A a with
      | some i => rfl
      | none =>
        cases idx B a with
        | none => rfl
        | some i => show some (i + A.length + 1) = some (i + (A.length + 1)); rfl
theorem idx_at {l : List UInt64} (h : allErr l = 0) {i : Nat} {b : Hb} (hi : (O19 l)[i]? = some b) : idx (O19 l) b.at_ = some i := by
  obtain ⟨j, c, h1, h2, h3, _⟩ := idx_of ⟨b, List.mem_of_getElem? hi, rfl⟩
  have hc := objs_inj h (List.mem_of_getElem? h2) (List.mem_of_getElem? hi) h3
  subst hc
  rw [h1, objs_idx h h2 hi]
theorem idx_drop {A C : List Hb} {b : Hb} {a : Int} {i : Nat} (h : idx (A ++ b :: C) a = some i) (ha : b.at_ ≠ a) : idx (A ++ C) a = some (if i < A.length then i else i - 1) ∧ i ≠ A.length := by
  rw [idx_app] at h ⊢
  cases hA : idx A a with
  | some j =>
    rw [hA] at h
    injection h with h
    obtain ⟨c, hc, _⟩ := idx_some hA
    have := (List.getElem?_eq_some_iff.1 hc).1
    subst h
    rw [if_pos this]
    exact ⟨rfl, by omega⟩
  | none =>
    rw [hA, idx, if_neg ha] at h
    cases hC : idx C a with
    | none => rw [hC] at h; cases h
    | some j =>
      rw [hC] at h
      injection h with h
      dsimp only at h
      subst h
      refine ⟨?_, by omega⟩
      rw [if_neg (by omega)]
      show some (j + A.length) = _
      congr 1; omega
theorem idx_ins {A C : List Hb} {o : Hb} {a : Int} {i : Nat} (h : idx (A ++ C) a = some i) (ha : o.at_ ≠ a) : idx (A ++ o :: C) a = some (if i < A.length then i else i + 1) := by
  rw [idx_app] at h ⊢
  cases hA : idx A a with
  | some j =>
    rw [hA] at h
    injection h with h
    obtain ⟨c, hc, _⟩ := idx_some hA
    have := (List.getElem?_eq_some_iff.1 hc).1
    subst h
    rw [if_pos this]
  | none =>
    rw [hA] at h
    cases hC : idx C a with
    | none => rw [hC] at h; cases h
    | some j =>
      rw [hC] at h
      injection h with h
      dsimp only at h
      subst h
      rw [if_neg (by omega), idx, if_neg ha, hC]
      show some (j + 1 + A.length) = _
      congr 1; omega
theorem refV_some {O : List Hb} {v : UInt64} {i : Nat} (h : idx O v.toNat = some i) : refV O v = UInt64.ofNat (i + 1) := by unfold refV; rw [h]
theorem refV_none {O : List Hb} {v : UInt64} (h : ¬ IsObj O v.toNat) : refV O v = 0 := by unfold refV; rw [idx_none.2 h]
theorem no_zero {l : List UInt64} (h : allErr l = 0) {O : List Hb} (hO : ∀ b ∈ O, 128 ≤ b.at_) : ¬ IsObj O (0 : UInt64).toNat := by
  rintro ⟨b, hb, e⟩
  have := hO b hb
  rw [e] at this
  simp at this
theorem objs_low {l : List UInt64} (h : allErr l = 0) : ∀ b ∈ O19 l, 128 ≤ b.at_ := fun b hb => by
  obtain ⟨a, h1, h2, _⟩ := objs_at h hb
  omega
theorem fldV_not {O : List Hb} {k : UInt8} {v : UInt64} (h : k.toNat ≠ 3) : fldV O k v = v := if_neg h
theorem fldV_ref {O : List Hb} {k : UInt8} {v : UInt64} (h : k.toNat = 3) : fldV O k v = refV O v := if_pos h
/-- the model with another field -/
theorem seen_put {l : List UInt64} (h : Rt l) {n i p : Nat} {b : Hb} {k : UInt8} {v : UInt64} (hb : (O19 l)[n]? = some b) (hi : i < (kindsB (T19 l) b).length) (hk : (kindsB (T19 l) b).getD i 0 = k) (hp : p = b.at_.toNat + 2 + i) (hv : FdR (O19 l) k v) :
    Rt (l.set p v) ∧ seen (l.set p v) = putF (seen l) n i (fldV (O19 l) k v) := by
  have hbm := List.mem_of_getElem? hb
  have f := h.fs hbm v hi hp
  refine ⟨f.rt h hbm hi hk hv, ?_⟩
  have eO : O19 (l.set p v) = O19 l := by unfold O19; rw [f.alL]
  have hn : n < (O19 l).length := (List.getElem?_eq_some_iff.1 hb).1
  unfold seen putF
  rw [f.tyT, f.slL, eO]
  congr 1
  refine List.ext_getElem? fun j => ?_
  rw [List.getElem?_map]
  by_cases hj : j = n
  · subst hj
    rw [List.getElem?_set_self (by rw [List.length_map]; exact hn), hb, Option.map_some]
    have hob : ob ⟨T19 l, (O19 l).map (obOf l (T19 l) (O19 l)), (slots l).map (slOf (O19 l))⟩ j = obOf l (T19 l) (O19 l) b := by
      unfold ob; rw [List.getD_eq_getElem?_getD, List.getElem?_map, hb]; rfl
    rw [hob]
    unfold obOf
    congr 2
    refine List.ext_getElem? fun q => ?_
    by_cases hq : q < (kindsB (T19 l) b).length
    · rw [obFs_get hq]
      by_cases e : q = i
      · subst e
        rw [List.getElem?_set_self (by rw [obFs_len]; exact hq), f.fwb, hk]
      · rw [List.getElem?_set_ne (fun e' => e e'.symm), obFs_get hq, f.fwo b hbm q (by omega) (fun _ => hq) (.inr e)]
    · rw [List.getElem?_eq_none (by rw [obFs_len]; omega), List.getElem?_eq_none (by rw [List.length_set, obFs_len]; omega)]
  · rw [List.getElem?_set_ne (fun e => hj e.symm), List.getElem?_map]
    cases hc : (O19 l)[j]? with
    | none => rfl
    | some c =>
      have hcm := List.mem_of_getElem? hc
      have hne : c ≠ b := fun e => hj (objs_idx h.al hc (e ▸ hb))
      rw [Option.map_some, Option.map_some]
      unfold obOf obFs
      congr 2
      refine List.map_congr_left fun q hq => ?_
      have hq := List.mem_range.1 hq
      rw [f.fwo c hcm q (by omega) (fun _ => hq) (.inl hne)]
/-- images that are the same in front of the heap -/
structure Front (l l' : List UInt64) : Prop where
  len : l'.length = l.length
  take : l'.take 128 = l.take 128
section
variable {l l' : List UInt64}
theorem Front.get (h : Front l l') {i : Nat} (hi : i < 128) : l'.getD i 0 = l.getD i 0 := by
  rw [List.getD_eq_getElem?_getD, List.getD_eq_getElem?_getD, ← List.getElem?_take_of_lt hi, h.take, List.getElem?_take_of_lt hi]
theorem Front.part (h : Front l l') {a n : Nat} (ha : a + n ≤ 128) : (l'.drop a).take n = (l.drop a).take n := by
  have e : ∀ m : List UInt64, (m.drop a).take n = ((m.take 128).drop a).take n := fun m => by
    rw [List.drop_take, List.take_take, Nat.min_eq_left (by omega)]
  rw [e l', e l, h.take]
theorem Front.super (h : Front l l') : rErr l' = rErr l ∧ sT l' = sT l := by
  have h0 : c0 l' = c0 l := by have := h.part (a := 0) (n := 8) (by omega); rwa [List.drop_zero, List.drop_zero] at this
  have h1 : c1 l' = c1 l := h.part (a := 8) (n := 8) (by omega)
  have e0 : is0 l' = is0 l := by unfold is0; rw [h0, h.len]
  have e1 : is1 l' = is1 l := by unfold is1; rw [h1, h.len]
  have e2 : rErr l' = rErr l := by unfold rErr; rw [e0, e1, h.len]
  exact ⟨e2, by unfold sT one; rw [e2, e0, h0, h1]⟩
theorem Front.zr (h : Front l l') {a : Nat} (ha : a + 8 ≤ 128) : Zr l' a ↔ Zr l a := by
  unfold Zr
  constructor <;> intro hh i hi <;> have := hh i hi <;> rw [h.get (by omega)] at * <;> exact this
theorem Front.tab (h : Front l l') (n : Int) : tabErr l' n = tabErr l n ∧ tabT l' n = tabT l n := by
  have e0 : ∀ i, i < 8 → ta l' i = ta l i ∧ tb l' i = tb l i := fun i hi => by unfold ta tb; exact ⟨h.get (by omega), h.get (by omega)⟩
  have e : ∀ k, TysOk l' k ↔ TysOk l k := fun k => by
    unfold TysOk
    constructor <;> intro hh i hi <;> have := hh i hi <;> unfold TyOk at * <;> rw [(e0 i hi).1, (e0 i hi).2] at * <;> exact this
  have e2 : tabErr l' n = tabErr l n := by unfold tabErr; rw [h.len]; simp only [e]
  refine ⟨e2, ?_⟩
  unfold tabT
  rw [e2]
  by_cases h0 : tabErr l n = 0
  · rw [if_pos h0, if_pos h0]
    have hn : n.toNat ≤ 8 := by
      unfold tabErr at h0
      split at h0
      · split at h0
        · omega
        · omega
      · omega
    unfold tysTo
    refine List.map_congr_left fun i hi => ?_
    have := List.mem_range.1 hi
    rw [(e0 i (by omega)).1, (e0 i (by omega)).2]
  · rw [if_neg h0, if_neg h0]
theorem Front.open_ (h : Front l l') : openErr l' = openErr l ∧ slots l' = slots l := by
  have e : ws l' = ws l := h.part (a := 112) (n := 16) (by omega)
  refine ⟨?_, by unfold slots; rw [e]⟩
  have e2 : AllR l' ↔ AllR l := by unfold AllR; rw [e]
  unfold openErr; rw [h.len]; simp only [e2]
theorem Front.types (h : Front l l') : T19 l' = T19 l := by unfold T19; rw [h.super.2, (h.tab _).2]
/-- a right image whose heap is written anew -/
theorem Front.rt (f : Front l l') (h : Rt l) (ha : allErr l' = 0) (hg : ∀ b ∈ O19 l', Idle b ∧ Typed (T19 l) b ∧ Padded l' (T19 l) b ∧ FloatsB l' (T19 l) b ∧ RefsB l' (T19 l) (O19 l') b) (hs : SlotsGood (slots l) (O19 l')) : Rt l' := by
  refine ⟨by rw [f.len]; exact h.sz, f.super.1.trans h.tw, (f.zr (by omega)).2 h.z16, (f.zr (by omega)).2 h.z24, by rw [f.super.2, (f.tab _).1]; exact h.ty, f.open_.1.trans h.sl, ha, ?_, by rw [f.open_.2]; exact hs⟩
  intro i h1 h2 b hb
  rw [f.types]
  obtain ⟨g1, g2, g3, g4, g5⟩ := hg b hb
  rcases (show i = 7 ∨ i = 8 ∨ i = 9 ∨ i = 10 ∨ i = 11 by omega) with rfl | rfl | rfl | rfl | rfl
  · exact g1
  · exact g2
  · exact g3
  · exact g4
  · exact g5
theorem front_set {p : Nat} {v : UInt64} (hp : 128 ≤ p) : Front l (l.set p v) := ⟨List.length_set, List.take_set_of_le hp⟩
theorem Front.refl (l : List UInt64) : Front l l := ⟨rfl, rfl⟩
theorem Front.trans {m : List UInt64} (h : Front l l') (h2 : Front l' m) : Front l m := ⟨h2.len.trans h.len, h2.take.trans h.take⟩
end
/-- the model with another slot -/
theorem seen_slot_set {l : List UInt64} (h : Rt l) {k : Nat} {s : Sl} (hk : k < 16) (hr : Right s) (hs : s.used = true → IsObj (O19 l) s.at_) :
    Rt (l.set (112 + k) (pk s)) ∧ seen (l.set (112 + k) (pk s)) = ⟨(seen l).types, (seen l).objs, (seen l).slots.set k (slOf (O19 l) s)⟩ ∧ O19 (l.set (112 + k) (pk s)) = O19 l ∧ T19 (l.set (112 + k) (pk s)) = T19 l ∧ allL (l.set (112 + k) (pk s)) = allL l := by
  obtain ⟨l', hl'⟩ : ∃ l', l' = l.set (112 + k) (pk s) := ⟨_, rfl⟩
  have a1 := rErr_set (l := l) (v := pk s) (p := 112 + k) (by omega)
  have a4 := tabErr_set (l := l) (v := pk s) (p := 112 + k) (by omega)
  have a6 := allL_set (l := l) (v := pk s) (p := 112 + k) (by omega)
  have a7 := allErr_set (l := l) (v := pk s) (p := 112 + k) (by omega)
  have a8 := openErr_set (x := pk s) h.sl hk (by rw [spl_pk hr]; exact hr)
  have a9 := slots_set (l := l) (pk s) hk
  rw [spl_pk hr] at a9
  have z1 := zr_set (l := l) (v := pk s) (p := 112 + k) (a := 16) (by omega)
  have z2 := zr_set (l := l) (v := pk s) (p := 112 + k) (a := 24) (by omega)
  have eT : T19 (l.set (112 + k) (pk s)) = T19 l := by unfold T19; rw [a1.2.1, (a4 _).2]
  have eO : O19 (l.set (112 + k) (pk s)) = O19 l := by unfold O19; rw [a6]
  have efw : ∀ b ∈ O19 l, ∀ i, fw (l.set (112 + k) (pk s)) b i = fw l b i := fun b hb i => by
    have := objs_low h.al b hb
    exact fw_set (by omega)
  have hT : tabErr (l.set (112 + k) (pk s)) (sT (l.set (112 + k) (pk s))) = 0 := by rw [a1.2.1, (a4 _).1]; exact h.ty
  have hlen : (l.set (112 + k) (pk s)).length = l.length := List.length_set
  rw [← hl'] at a1 a4 a6 a7 a8 a9 z1 z2 eT eO efw hT hlen
  rw [← hl']
  refine ⟨⟨by rw [hlen]; exact h.sz, a1.1.trans h.tw, z1.2 h.z16, z2.2 h.z24, hT, a8, a7.trans h.al, ?_, ?_⟩, ?_, eO, eT, a6⟩
  · intro i h1 h2 b hb
    rw [eT, eO]
    rw [eO] at hb
    exact (good_congr fun j _ _ => efw b hb j).2 (h.good i h1 h2 b hb)
  · rw [a9, eO]
    intro t ht hu
    rcases List.mem_or_eq_of_mem_set ht with ht | rfl
    · exact h.slots t ht hu
    · exact hs hu
  · unfold seen
    rw [eT, eO, a9, List.map_set]
    congr 1
    refine List.map_congr_left fun b hb => ?_
    unfold obOf obFs
    congr 1
    exact List.map_congr_left fun i _ => by rw [efw b hb i]
/-- an object is taken away: its neighbours merge with it -/
theorem seen_free {l : List UInt64} (h : Rt l) {n i : Nat} {b : Hb} (hb : (O19 l)[n]? = some b) (hi : (allL l)[i]? = some b) (hns : ∀ s ∈ slots l, s.used = true → s.at_ ≠ b.at_)
    (hnr : ∀ c ∈ O19 l, c ≠ b → ∀ j, j < (kindsB (T19 l) c).length → ((kindsB (T19 l) c).getD j 0).toNat = 3 → (fw l c j).toNat ≠ b.at_) {m : Hb} (hm : m = becomes (allL l) i) :
    Rt (l.set m.at_.toNat (L14.word m)) ∧ seen (l.set m.at_.toNat (L14.word m)) = ⟨(seen l).types, ((seen l).objs.map (lowO (seen l) n)).eraseIdx n, (seen l).slots.map (lowS n)⟩ ∧
      (∃ P M S, allL l = P ++ (M ++ S) ∧ b ∈ M ∧ (∀ c ∈ M, c ≠ b → c.kind = 2) ∧ allL (l.set m.at_.toNat (L14.word m)) = P ++ ([{ m with next := (l.set m.at_.toNat (L14.word m)).getD (m.at_.toNat + 1) 0 }] ++ S)) ∧ 128 ≤ m.at_ ∧ m.at_ + m.size ≤ l.length := by
  have hbm := List.mem_of_getElem? hb
  have hbk : b.kind = 1 := (objs_mem.1 hbm).2
  obtain ⟨P, lo, hi', S, p, q, hc, e1, e2, hok, k1, k2, l1, l2, hna, hil, hp128, hpb, hbq, hq⟩ := merge_part h.al hi hbk
  rw [← hm] at e1 e2 hok
  have hpn : m.at_.toNat = p := by omega
  rw [hpn]
  have hbd := hok.bounds
  obtain ⟨l', hl'⟩ : ∃ l', l' = l.set p (L14.word m) := ⟨_, rfl⟩
  rw [← hl']
  have f : Front l l' := by rw [hl']; exact front_set hp128
  have hgp : l'.getD p 0 = L14.word m := by rw [hl']; exact getD_set_self (by omega)
  have hge : ∀ j, j ≠ p → l'.getD j 0 = l.getD j 0 := fun j hj => by rw [hl']; exact getD_set_ne (fun e => hj e.symm)
  obtain ⟨a1, a2, a3⟩ := hc.new (N := [{ m with next := l'.getD (p + 1) 0 }]) h.sz f.len (fun j h1 h2 => hge j (by omega))
    (Seg.put (b := { m with next := l'.getD (p + 1) 0 }) (k := p) hok (by rw [hgp]; rfl) e1 rfl (by show (q : Int) = p + m.size; omega) (by rw [f.len]; exact hq)) (hna _)
  -- the objects
  have eO : O19 l = objs P ++ b :: objs S := by
    unfold O19
    rw [hc.eq, objs_app, objs_app, objs_app]
    have z1 : objs lo = [] := List.filter_eq_nil_iff.2 fun x hx => by have := k1 x hx; simp; omega
    have z2 : objs (b :: hi') = [b] := by
      show List.filter _ _ = _
      rw [List.filter_cons_of_pos (by simpa using hbk)]
      congr 1
      exact List.filter_eq_nil_iff.2 fun x hx => by have := k2 x hx; simp; omega
    rw [z1, z2]; simp
  have hm2 : m.kind = 2 := by rw [hm]; rfl
  have eO' : O19 l' = objs P ++ objs S := by
    unfold O19
    rw [a2, objs_app, objs_app]
    have : objs [({ m with next := l'.getD (p + 1) 0 } : Hb)] = [] := List.filter_eq_nil_iff.2 fun x hx => by
      rw [List.mem_singleton] at hx; subst hx; simp; omega
    rw [this]; simp
  have hn : n = (objs P).length := objs_idx h.al hb (by rw [eO, List.getElem?_append_right (Nat.le_refl _), Nat.sub_self]; rfl)
  have hsub : ∀ c ∈ O19 l', c ∈ O19 l ∧ c ≠ b := fun c hcm => by
    rw [eO'] at hcm
    refine ⟨by rw [eO]; rcases List.mem_append.1 hcm with h1 | h1 <;> simp [h1], fun e => ?_⟩
    subst e
    rcases List.mem_append.1 hcm with h1 | h1
    · obtain ⟨j, hj⟩ := List.getElem?_of_mem h1
      have hjl := (List.getElem?_eq_some_iff.1 hj).1
      have := objs_idx h.al hb (j := j) (by rw [eO, List.getElem?_append_left hjl]; exact hj)
      omega
    · obtain ⟨j, hj⟩ := List.getElem?_of_mem h1
      have := objs_idx h.al hb (j := (objs P).length + (j + 1)) (by rw [eO, List.getElem?_append_right (by omega), show (objs P).length + (j + 1) - (objs P).length = j + 1 by omega]; exact hj)
      omega
  have hfw : ∀ c ∈ O19 l', ∀ j, j ≤ (kindsB (T19 l) c).length → ((kindsB (T19 l) c).length % 2 = 0 → j < (kindsB (T19 l) c).length) → fw l' c j = fw l c j := fun c hcm j h1 h2 => by
    refine hge _ ?_
    have hcl := hsub c hcm
    obtain ⟨a, g1, g2, g3, g4, g5, g6, _⟩ := objs_at h.al hcl.1
    have hsz := (h.good 8 (by omega) (by omega) c hcl.1).2
    have : (kindsB (T19 l) c).length % 2 = 0 ∨ (kindsB (T19 l) c).length % 2 = 1 := by omega
    rw [eO'] at hcm
    rcases List.mem_append.1 hcm with h3 | h3
    · have := (hc.s1.bound (objs_mem.1 h3).1).2.1
      omega
    · have := (hc.s3.bound (objs_mem.1 h3).1).1
      omega
  have hob : ∀ a : Int, IsObj (O19 l) a → a ≠ b.at_ → IsObj (O19 l') a := fun a ⟨c, hcm, e⟩ hne => by
    rw [eO] at hcm
    refine ⟨c, ?_, e⟩
    rw [eO']
    rcases List.mem_append.1 hcm with h3 | h3
    · exact List.mem_append.2 (.inl h3)
    · rcases List.mem_cons.1 h3 with h4 | h4
      · exact absurd (by rw [← e, h4]) hne
      · exact List.mem_append.2 (.inr h4)
  have rt' : Rt l' := f.rt h a1 (fun c hcm => by
    have hcl := hsub c hcm
    refine ⟨h.good 7 (by omega) (by omega) c hcl.1, h.good 8 (by omega) (by omega) c hcl.1, ?_, ?_, ?_⟩
    · have h9 : Padded l (T19 l) c := h.good 9 (by omega) (by omega) c hcl.1
      by_cases h2 : (kindsB (T19 l) c).length % 2 = 0
      · exact .inl h2
      · refine .inr ?_
        rw [hfw c hcm _ (Nat.le_refl _) (fun e => absurd e h2)]
        exact h9.resolve_left h2
    · intro j hj hj2
      rw [hfw c hcm j (by omega) (fun _ => hj)]
      exact h.good 10 (by omega) (by omega) c hcl.1 j hj hj2
    · intro j hj hj2
      rw [hfw c hcm j (by omega) (fun _ => hj)]
      have : fw l c j = 0 ∨ IsObj (O19 l) (fw l c j).toNat := h.good 11 (by omega) (by omega) c hcl.1 j hj hj2
      exact this.imp id fun h3 => hob _ h3 (hnr c hcl.1 hcl.2 j hj hj2)) (fun s hs hu => hob _ (h.slots s hs hu) (hns s hs hu))
  have hidx : ∀ (a : Int) (j : Nat), idx (O19 l) a = some j → b.at_ ≠ a → idx (O19 l') a = some (if j < n then j else j - 1) ∧ j ≠ n := fun a j h1 h2 => by
    rw [eO] at h1
    rw [eO', hn]
    exact idx_drop h1 h2
  refine ⟨rt', ?_, ⟨P, lo ++ b :: hi', S, hc.eq, by simp, ?_, a2⟩, by omega, by omega⟩
  · have hOl := objs_len h.al
    rw [show seen l' = ⟨T19 l', (O19 l').map (obOf l' (T19 l') (O19 l')), (slots l').map (slOf (O19 l'))⟩ from rfl, f.types, f.open_.2]
    show Mo.mk _ _ _ = Mo.mk _ _ _
    congr 1
    · have hfs : ∀ c ∈ O19 l', obOf l' (T19 l) (O19 l') c = lowO (seen l) n (obOf l (T19 l) (O19 l) c) := fun c hcm => by
        have hcl := hsub c hcm
        unfold obOf lowO
        congr 1
        show obFs l' (T19 l) (O19 l') c = (List.range (obFs l (T19 l) (O19 l) c).length).map fun j => lowV n ((kindsB (T19 l) c).getD j 0) ((obFs l (T19 l) (O19 l) c).getD j 0)
        rw [obFs_len]
        unfold obFs
        refine List.map_congr_left fun j hj => ?_
        have hj := List.mem_range.1 hj
        have hg : ((List.range (kindsB (T19 l) c).length).map fun i => fldV (O19 l) ((kindsB (T19 l) c).getD i 0) (fw l c i)).getD j 0 = fldV (O19 l) ((kindsB (T19 l) c).getD j 0) (fw l c j) := by
          have := obFs_get (l := l) (T := T19 l) (O := O19 l) hj
          unfold obFs at this
          rw [List.getD_eq_getElem?_getD, this]; rfl
        rw [hg, hfw c hcm j (by omega) (fun _ => hj)]
        by_cases h3 : ((kindsB (T19 l) c).getD j 0).toNat = 3
        · rw [fldV_ref h3, fldV_ref h3]
          have h11 : fw l c j = 0 ∨ IsObj (O19 l) (fw l c j).toNat := h.good 11 (by omega) (by omega) c hcl.1 j hj h3
          have hne := hnr c hcl.1 hcl.2 j hj h3
          unfold lowV
          rcases h11 with h0 | h0
          · rw [h0, refV_none (no_zero h.al (objs_low h.al)), refV_none (no_zero h.al (fun x hx => objs_low h.al x (hsub x hx).1)), if_neg (by simp)]
          · obtain ⟨x, y, g1, g2, g3, g4⟩ := idx_of h0
            obtain ⟨g5, g6⟩ := hidx _ _ g1 (fun e => hne e.symm)
            rw [refV_some g1, refV_some g5]
            have hx : (UInt64.ofNat (x + 1)).toNat = x + 1 := by rw [UInt64.toNat_ofNat', Nat.mod_eq_of_lt (by omega)]
            rw [hx]
            by_cases hlt : x < n
            · rw [if_pos hlt, if_neg (by omega)]
            · rw [if_neg hlt, if_pos ⟨h3, by omega⟩]
              have hx1 : x ≠ 0 := by omega
              apply UInt64.toNat.inj
              rw [UInt64.toNat_sub_of_le _ _ (by rw [UInt64.le_iff_toNat_le, hx]; simp), hx, UInt64.toNat_ofNat', Nat.mod_eq_of_lt (by omega)]
              show x - 1 + 1 = x + 1 - 1
              omega
        · rw [fldV_not h3, fldV_not h3]
          unfold lowV
          rw [if_neg (fun e => h3 e.1)]
      show _ = (((O19 l).map (obOf l (T19 l) (O19 l))).map (lowO (seen l) n)).eraseIdx n
      rw [List.map_congr_left hfs, List.map_map, hn]
      have e3 : ∀ F : Hb → Ob, (O19 l').map F = ((O19 l).map F).eraseIdx (objs P).length := fun F => by
        rw [eO, eO', List.map_append, List.map_append, List.map_cons, List.eraseIdx_append_of_length_le (by simp)]
        simp
      exact e3 _
    · show _ = ((slots l).map (slOf (O19 l))).map (lowS n)
      rw [List.map_map]
      refine List.map_congr_left fun s hs => ?_
      show slOf (O19 l') s = lowS n (slOf (O19 l) s)
      unfold slOf
      by_cases hu : s.used = true
      · rw [if_pos hu, if_pos hu]
        obtain ⟨x, y, g1, g2, g3, g4⟩ := idx_of (h.slots s hs hu)
        obtain ⟨g5, g6⟩ := hidx _ _ g1 (fun e => hns s hs hu e.symm)
        rw [g1, g5]
        unfold lowS lowA
        rw [if_pos rfl]
        dsimp only
        congr 1
        by_cases hlt : x < n
        · rw [if_pos hlt, if_neg (by omega)]
        · rw [if_neg hlt, if_pos (by omega)]; omega
      · rw [if_neg hu, if_neg hu]
        unfold lowS
        rw [if_neg hu]
  · intro c hcm hne
    rcases List.mem_append.1 hcm with h3 | h3
    · exact k1 c h3
    · rcases List.mem_cons.1 h3 with h4 | h4
      · exact absurd h4 hne
      · exact k2 c h4
end Go.Proofs.Ytodbbacmdjcheaa.L19
namespace Go.Proofs.Ytodbbacmdjcheaa
open Go.RowKit L01 L02 L05 L06 L07 L13 L14 L15 L16 L18 L19
theorem free_snoc {L : List Hb} {b : Hb} : free (L ++ [b]) = free L ++ (if b.kind = 2 then [b] else []) := by
  rw [free_app]; congr 1
  unfold free
  by_cases h : b.kind = 2
  · rw [if_pos h, List.filter_cons_of_pos (by simpa using h)]; rfl
  · rw [if_neg h, List.filter_cons_of_neg (by simpa using h)]; rfl
set_option maxRecDepth 100000 in
set_option maxHeartbeats 1000000 in
theorem FreeW_any (v : Value) (l : List UInt64) (F : List Hb) (r : Int) (hF : F = freeL l) (hr : r = allErr l) (w : World) (h : Words w v l) :
    Calls Try.prog 35 #[v] w fun e w' => ∃ x, e = .returned (.tuple #[x, .int .i64 r]) ∧ OwnK w' w.heap.size x F ∧ Below w.heap.size w w' := by
  have B : Below w.heap.size w w := Below.refl _ _
  have H := Lib.hid h
  obtain ⟨L, hL⟩ : ∃ L, L = allL l := ⟨_, rfl⟩
  have WT := Lib.hid (fun w h => AllW_any v l L r hL hr w h)
  by_cases h0 : r = 0
  case neg =>
    have hF0 : F = [] := by rw [hF, freeL, allL, if_neg (by rw [← hr]; exact h0)]; rfl
    subst hF0
    have n1 : (r != 0) = true := by rw [bne_iff_ne]; exact h0
    clear hF hr h hL h0
    go_enter Try.func35, Try.ntmps35
    go_wp2_with fail
    refine (WT.out _ (H.out.below B)).mono ?_
    rintro e wa1 ⟨xl, rfl, ol, b⟩
    replace B := B.trans (b.mono B.size); clear b
    go_wp2
    go_ret2
    exact ⟨_, rfl, OwnK.nil _ _, B⟩
  case pos =>
    subst h0
    have hl9 : L.length ≤ 960 := by rw [hL]; exact all_len hr.symm
    have HF := Lib.hid (show F = free L by rw [hF, hL]; rfl)
    obtain ⟨N, hN⟩ : ∃ N, N = L.length := ⟨_, rfl⟩
    have HN := Lib.hid hN
    have hN9 : N ≤ 960 := by omega
    clear hF hr h hL hl9 hN
    go_enter Try.func35, Try.ntmps35
    go_wp2_with fail
    refine (WT.out _ (H.out.below B)).mono ?_
    rintro e wa1 ⟨xl, rfl, ol, b⟩
    replace B := B.trans (b.mono B.size); clear b
    have HO := Lib.hid ol.rd
    have lx := HO.out.len
    rw [← HN.out] at lx
    have hB1 := B.size
    have HB := Lib.hid (And.intro B hB1)
    have BB : Below wa1.heap.size wa1 wa1 := Below.refl _ _
    have HBB := Lib.hid BB
    clear ol B BB hB1
    go_wp2
    go_loopg [6, 19] N (fun g xv i wr => ∃ j : Nat, j ≤ N ∧ g = N - j ∧ i = .int .i64 j ∧ Hid (OwnK wr wa1.heap.size xv (free (L.take j)) ∧ Below wa1.heap.size wa1 wr))
    case atStart => exact ⟨0, by omega, by omega, rfl, Lib.hid ⟨by rw [List.take_zero]; exact OwnK.nil _ _, HBB.out⟩⟩
    case round =>
      obtain ⟨j, hj, rfl, rfl, hh⟩ := hrel
      clear HBB
      obtain ⟨o1, B⟩ := hh.out
      by_cases hlt : j < N
      · obtain ⟨bb, oo, b, ia, m0, m1, m2, m3, m4, m5, hb, _⟩ := (Blks.below HO.out B).at_ (k := j) (by rw [← HN.out]; exact hlt)
        have htk : L.take (j + 1) = L.take j ++ [b] := by rw [List.take_add_one, hb.out]; rfl
        have hsn := free_snoc (L := L.take j) (b := b)
        rw [← htk] at hsn
        have hB0 := B.size
        by_cases hk : b.kind = 2
        · rw [if_pos hk] at hsn
          have k1 : (b.kind == 2) = true := by rw [beq_iff_eq]; exact hk
          have HS := Lib.hid hsn
          have hol : (free (L.take j)).length ≤ j := Nat.le_trans (List.length_filter_le _ _) (by rw [List.length_take]; omega)
          clear hsn htk hk hb
          go_upto_region 8 with (fail)
          refine wp_gen (fun Wv => Bx Wv (wr.heap.size) (84) (#[.int .i64 b.at_, .int .i64 b.size, .int .i64 b.kind, .int .i64 b.ty, .bool b.mark, .int .u64 b.next.toNat]) ∧ Below wr.heap.size wr Wv) ⟨((Bx.at_ (by simp))), ((Below.refl _ wr).alloc (by simp <;> omega) _)⟩ ?_
          rintro wa2 ⟨g2, b⟩
          replace o1 := o1.below b; replace B := B.trans (b.mono B.size); clear b
          have c_g2 := g2.cell; have f_g2 := g2.free; have a_g2 := fun o => (g2.alloc o).cell; have d_g2 := fun o o2 => ((g2.alloc o).alloc o2).cell; have e_g2 := fun o => (g2.alloc o).free
          have hne := own_fresh o1
          go_wp2_with (at_builtin; refine wpList_append (by rfl) rfl rfl rfl Try.underlying92 info_block rfl (by omega) (by exact own_below o1 ((Below.refl _ _).alloc (Nat.le_refl _) _)) (by exact lit_block b (by simp)) (bkL_one b) (by omega) (by omega) (by exact B.alloc B.size _) (Nat.le_refl _) ?_; intro v1 w3 o3 B3 g3)
          have o4 : OwnK w3 wa1.heap.size v1 (free (L.take (j + 1))) := by rw [HS.out]; exact OwnK.of o3 (tabB_snoc _ b)
          have HZ := Lib.hid (And.intro o4 B3)
          go_roundg (N - (j + 1))
          case measure => omega
          case rel => exact ⟨j + 1, by omega, rfl, by go_num, HZ⟩
        · rw [if_neg hk, List.append_nil] at hsn
          have k1 : (b.kind == 2) = false := by rw [beq_eq_false_iff_ne]; exact hk
          have HS := Lib.hid hsn
          clear hsn htk hk hb
          go_upto_region 8 with (fail)
          refine wp_gen (fun Wv => Bx Wv (wr.heap.size) (84) (#[.int .i64 b.at_, .int .i64 b.size, .int .i64 b.kind, .int .i64 b.ty, .bool b.mark, .int .u64 b.next.toNat]) ∧ Below wr.heap.size wr Wv) ⟨((Bx.at_ (by simp))), ((Below.refl _ wr).alloc (by simp <;> omega) _)⟩ ?_
          rintro wa3 ⟨g2, b⟩
          replace o1 := o1.below b; replace B := B.trans (b.mono B.size); clear b
          have c_g2 := g2.cell; have f_g2 := g2.free; have a_g2 := fun o => (g2.alloc o).cell; have d_g2 := fun o o2 => ((g2.alloc o).alloc o2).cell; have e_g2 := fun o => (g2.alloc o).free
          have HZ := Lib.hid (And.intro o1 B)
          rw [← HS.out] at HZ
          go_wp2
          go_roundg (N - (j + 1))
          case measure => omega
          case rel => exact ⟨j + 1, by omega, rfl, by go_num, HZ⟩
      · obtain rfl : j = N := by omega
        have e : free (L.take j) = F := by rw [HF.out, HN.out, List.take_length]
        rw [e] at o1
        clear e
        obtain ⟨B0, hB1⟩ := HB.out
        have HBZ := Lib.hid (And.intro (o1.mono hB1) (B0.trans (B.mono hB1)))
        clear o1 B B0
        go_wp2
        go_ret2
        exact ⟨_, rfl, HBZ.out⟩
def anyU (S : List Sl) : Bool := S.any (·.used)
theorem closE_any (s : Sl) (w : World) : Calls Try.prog 41 #[.agg #[.int .i64 s.gen, .bool s.used, .int .i64 s.at_]] w fun e w' => e = .returned (.bool s.used) ∧ Below w.heap.size w w' := by
  have B : Below w.heap.size w w := Below.refl _ _
  obtain ⟨sg, su, sa⟩ := s
  dsimp only
  go_enter Try.func41, Try.ntmps41
  go_wp2
  go_ret
  refine ⟨rfl, ?_⟩
  (repeat (first | refine Below.setCell ?_ (by first | exact Nat.le_refl _ | (simp <;> omega)) _ | refine Below.alloc ?_ (by first | exact B.size | (have := B.size; simp <;> omega)) _)); exact B
set_option maxRecDepth 100000 in
set_option maxHeartbeats 1000000 in
theorem idxFun_any (v : Value) (S : List Sl) (w : World) (h : Slots w v S) (hl : S.length ≤ 1000000) :
    Calls Try.prog 71 #[v, .func (.func 41) #[] #[]] w fun e w' => ∃ r : Int, e = .returned (.int .i64 r) ∧ (r = -1 ∧ anyU S = false ∨ 0 ≤ r ∧ anyU S = true) ∧ Below w.heap.size w w' := by
  have B : Below w.heap.size w w := Below.refl _ _
  have H := Lib.hid h
  have lx := Rd.len h Try.underlying48
  obtain ⟨N, hN⟩ : ∃ N, N = S.length := ⟨_, rfl⟩
  rw [← hN] at lx hl
  have HN := Lib.hid hN
  have CL := Lib.hid closE_any
  have HB := Lib.hid B
  clear h hN B
  go_enter Try.func71, Try.ntmps71
  go_wp2
  go_loopg [8] N (fun g i wr => ∃ j : Nat, j ≤ N ∧ g = N - j ∧ i = .int .i64 j ∧ Hid (Below w.heap.size w wr ∧ ∀ i s, i < j → S[i]? = some s → s.used = false))
  case atStart => exact ⟨0, by omega, by omega, rfl, Lib.hid ⟨HB.out, fun i s hi => by omega⟩⟩
  case round =>
    obtain ⟨j, hj, rfl, rfl, hh⟩ := hrel
    clear HB
    obtain ⟨B, hz⟩ := hh.out
    have HZ := Lib.hid hz
    clear hz
    by_cases hlt : j < N
    · obtain ⟨bb, oo, s, it, m0, m1, m2, hs⟩ := (Slots.below H.out B).at_ (P := Try.prog) Try.underlying48 size_slot (k := j) (by rw [← HN.out]; exact hlt)
      obtain ⟨q, hq⟩ : ∃ q, q = s.used := ⟨_, rfl⟩
      have CL2 : Hid (∀ W, Calls Try.prog 41 #[.agg #[.int .i64 s.gen, .bool s.used, .int .i64 s.at_]] W fun e w' => e = .returned (.bool q) ∧ Below W.heap.size W w') := by rw [hq]; exact Lib.hid (CL.out s)
      have HS := Lib.hid (show S[j]? = some s ∧ q = s.used from ⟨hs.out, hq⟩)
      clear hs hq
      cases q
      · have HZ2 : Hid (∀ i s, i < j + 1 → S[i]? = some s → s.used = false) := Lib.hid (fun i s' hi hs' => by
          by_cases e : i = j
          · subst e; rw [HS.out.1] at hs'; injection hs' with hs'; subst hs'; exact HS.out.2.symm
          · exact HZ.out i s' (by omega) hs')
        go_wp2_with fail
        refine (CL2.out _).mono ?_
        rintro e w2 ⟨rfl, b⟩
        replace B := B.trans (b.mono B.size)
        have HB2 := Lib.hid (And.intro B HZ2.out)
        clear b B
        go_wp2
        go_roundg (N - (j + 1))
        case measure => omega
        case rel => exact ⟨j + 1, by omega, rfl, by go_num, HB2⟩
      · have hany : anyU S = true := by
          unfold anyU
          rw [List.any_eq_true]
          exact ⟨s, List.mem_of_getElem? HS.out.1, HS.out.2.symm⟩
        have HA := Lib.hid hany
        clear hany
        go_wp2_with fail
        refine (CL2.out _).mono ?_
        rintro e w2 ⟨rfl, b⟩
        replace B := B.trans (b.mono B.size)
        clear b
        go_wp2
        go_ret
        exact ⟨_, rfl, .inr ⟨by omega, HA.out⟩, B⟩
    · obtain rfl : j = N := by omega
      have hany : anyU S = false := by
        unfold anyU
        rw [List.any_eq_false]
        intro s hs
        obtain ⟨i, hi⟩ := List.getElem?_of_mem hs
        have := HZ.out i s (by have := (List.getElem?_eq_some_iff.1 hi).1; rw [HN.out]; exact this) hi
        rw [this]; decide
      have HA := Lib.hid hany
      clear hany
      go_wp2
      go_ret
      exact ⟨_, rfl, .inl ⟨rfl, HA.out⟩, B⟩
set_option maxRecDepth 100000 in
theorem anyFun_any (v : Value) (S : List Sl) (c : Bool) (hc : c = anyU S) (w : World) (h : Slots w v S) (hl : S.length ≤ 1000000) :
    Calls Try.prog 40 #[v, .func (.func 41) #[] #[]] w fun e w' => e = .returned (.bool c) ∧ Below w.heap.size w w' := by
  have IX := Lib.hid (idxFun_any v S w h hl)
  have HC := Lib.hid hc
  clear hc h
  go_enter Try.func40, Try.ntmps40
  go_wp2_with fail
  refine IX.out.mono ?_
  rintro e w2 ⟨r, rfl, hr, b⟩
  have HR := Lib.hid hr
  clear hr
  go_wp2
  go_ret
  refine ⟨ret_bool ?_, b⟩
  rw [HC.out]
  rcases HR.out with ⟨h1, h2⟩ | ⟨h1, h2⟩ <;> rw [h2] <;> simp <;> omega
end Go.Proofs.Ytodbbacmdjcheaa
namespace Go.Proofs.Ytodbbacmdjcheaa
open Go.RowKit L02 L05 L06 L07 L13 L14 L15 L16 L19 L73 L75
theorem lit_typs1 {w : World} {t : List UInt8} {x : Value} {n : Nat} (hn : w.heap.size = n) (hx : Byts w x t) : Typs (w.alloc (.cells #[x] 69)) (.slice (some ⟨n, 0, none⟩) 1 1) [t] := by
  subst hn
  have hb : Below w.heap.size w (w.alloc (.cells #[x] 69)) := (Below.refl _ _).alloc (Nat.le_refl _) _
  refine ⟨[x], rfl, lit_rdN (n := 1) rfl (by omega), fun i y l h1 h2 => ?_⟩
  rcases i with _ | i
  · simp at h1 h2; subst h1; subst h2; exact Byts.below hx hb
  · simp at h1
theorem ref36_any (w : World) : Calls Try.prog 25 #[] w fun e w' => ∃ x, e = .returned x ∧ Typs w' x [[3]] ∧ Below w.heap.size w w' := by
  go_enter Try.func25, Try.ntmps25
  go_wp2
  go_ret
  have hb : Byts (w.alloc (.cells #[.int .u8 3] 5)) (.slice (some ⟨w.heap.size, 0, none⟩) 1 1) [3] := lit_byts [3] rfl rfl rfl (by simp)
  exact ⟨_, rfl, lit_typs1 (by simp) hb, ((Below.refl _ w).alloc (Nat.le_refl _) _).alloc (by simp) _⟩
theorem sup36_eql (a b c d : Int) (r : Bool) (hr : r = (a == c && b == d)) (W : World) : (binOp .eql 80 (.agg #[.int .i64 a, .int .i64 b]) (.agg #[.int .i64 c, .int .i64 d])).run Try.prog W = .ok (.bool r) W := by
  subst hr
  cases h : (a == c) <;> cases h2 : (b == d) <;> simp [go_sem, h, h2]
theorem bb36_items (a b c d : Bool) (W : World) : (Op.eqItems 9999 4 1 #[.bool a, .bool b] #[.bool c, .bool d] (List.range 2)).run Try.prog W = .ok (a == c && b == d) W := by
  cases a <;> cases b <;> cases c <;> cases d <;> kernel_rfl
theorem bb36_eql (a b c d : Bool) (r : Bool) (hr : r = (a == c && b == d)) (W : World) : (binOp .eql 95 (.agg #[.bool a, .bool b]) (.agg #[.bool c, .bool d])).run Try.prog W = .ok (.bool r) W := by
  subst hr
  obtain ⟨i, hi⟩ := Option.isSome_iff_exists.1 (show (Try.prog.info? 4).isSome = true by kernel_rfl)
  rw [run_eql_struct, run_equalIn_array (w := W) 9999 _ _ Try.underlying95 hi, show Try.prog.cellsOf 4 = 1 from by kernel_rfl, bb36_items]
  rfl
set_option maxRecDepth 100000 in
set_option maxHeartbeats 4000000 in
theorem alive36_any (w : World) : Calls Try.prog 17 #[] w fun e w' => e = .returned (.bool true) ∧ Below w.heap.size w w' := by
  have B : Below w.heap.size w w := Below.refl _ _
  obtain ⟨l0, hl0⟩ : ∃ l, l = imageP 256 [] := ⟨_, rfl⟩
  obtain ⟨l1, hl1⟩ : ∃ l, l = imageP 256 [[3]] := ⟨_, rfl⟩
  obtain ⟨f1, f2, f3⟩ := im0_all
  obtain ⟨t1, t2, t3, t4, t5, t6, t7⟩ := im1_tw
  rw [← hl0] at f1 f2 f3; rw [← hl1] at t1 t2 t3 t4 t5 t6 t7
  have n0 : l0.length = 256 := by rw [hl0, imageP_len]
  have n1 : l1.length = 256 := by rw [hl1, imageP_len]
  obtain ⟨a, ha⟩ : ∃ a, a = w0 [3] := ⟨_, rfl⟩
  obtain ⟨c, hc⟩ : ∃ a, a = L13.w1 [3] := ⟨_, rfl⟩
  rw [← ha] at t6; rw [← hc] at t7
  have I0 := Lib.hid (fun w => (show Calls Try.prog 10 #[.int .i64 256, .slice none 0 0] w (RetWE w l0 0) from by
    have := Image_any 256 (.slice none 0 0) [] w ⟨[], rfl, Rd.nil _ _, fun i x l h => by simp at h⟩
    rw [show imgErr 256 [] = 0 by decide, show imgP 256 [] = l0 from by rw [hl0]; rfl] at this; exact this))
  have I1 := Lib.hid (fun v w h => (show Calls Try.prog 10 #[.int .i64 256, v] w (RetWE w l1 0) from by
    have := Image_any 256 v [[3]] w h
    rw [show imgErr 256 [[3]] = 0 by decide, show imgP 256 [[3]] = l1 from by rw [hl1]; rfl] at this; exact this))
  have KT := Lib.hid (fun v w h => KWrite_any v [3] a c 0 ha hc (by decide) w h)
  have FT := Lib.hid (fun v w h => FreeW_any v l0 [⟨128, 128, 2, 0, false, 0⟩] 0 f2.symm f1.symm w h)
  have TT := Lib.hid (fun v w h => TRead_any v l1 256 1 true true 0 t2.symm t3.symm t4.symm t5.symm t1.symm w h)
  have RT := Lib.hid ref36_any
  have HF := Lib.hid f3; have H6 := Lib.hid t6; have H7 := Lib.hid t7; have N0 := Lib.hid n0; have N1 := Lib.hid n1
  have q1 := Lib.hid (sup36_eql 256 1 256 1 true (by simp)); have q2 := Lib.hid (bb36_eql true true true true true (by simp))
  clear hl0 hl1 f1 f2 f3 t1 t2 t3 t4 t5 t6 t7 n0 n1 ha hc
  go_enter Try.func17, Try.ntmps17
  go_wp2_with fail
  refine (I0.out _).mono ?_
  rintro e wa1 ⟨v0, rfl, o0, b⟩
  replace B := B.trans (b.mono B.size); clear b
  have p0 := o0.rd
  clear o0
  go_wp2_with fail
  refine (RT.out _).mono ?_
  rintro e wa2 ⟨r0, rfl, y0, b⟩
  replace p0 := p0.below b; replace B := B.trans (b.mono B.size); clear b
  go_wp2_with fail
  refine (I1.out _ _ y0).mono ?_
  rintro e wa3 ⟨v1, rfl, o1, b⟩
  replace p0 := p0.below b; replace B := B.trans (b.mono B.size); clear b
  have p1 := o1.rd
  clear o1 y0
  go_wp2_with fail
  refine (RT.out _).mono ?_
  rintro e wa4 ⟨r1, rfl, y1, b⟩
  replace p0 := p0.below b; replace p1 := p1.below b; replace B := B.trans (b.mono B.size); clear b
  obtain ⟨ad, x, tl, hix, hcx, htl, hbx⟩ := y1.at_ (k := 0) (by simp)
  obtain rfl : tl = [3] := by have := htl.out; simpa using this.symm
  have hix' : ∀ W, (Instr.indexAt 22 r1 (.int .i64 0)).run Try.prog W = .ok (.pointer (some ad)) W := hix
  have one := hbx.out.oneCell
  clear hix
  go_wp2_with fail
  refine (KT.out _ _ hbx.out).mono ?_
  rintro e wa5 ⟨rfl, b⟩
  replace p0 := p0.below b; replace p1 := p1.below b; replace B := B.trans (b.mono B.size); clear b
  clear hbx hcx hix' one y1 htl
  go_upto_region 4 with (fail)
  refine wp_gen (fun Wv => Bx Wv (wa5.heap.size) (76) (#[.int .u64 a.toNat, .int .u64 c.toNat]) ∧ Below wa5.heap.size wa5 Wv) ⟨((Bx.at_ (by simp))), ((Below.refl _ wa5).alloc (by simp <;> omega) _)⟩ ?_
  rintro wa6 ⟨g5, b⟩
  replace p0 := p0.below b; replace p1 := p1.below b; replace B := B.trans (b.mono B.size); clear b
  have c_g5 := g5.cell; have f_g5 := g5.free; have a_g5 := fun o => (g5.alloc o).cell; have d_g5 := fun o o2 => ((g5.alloc o).alloc o2).cell; have e_g5 := fun o => (g5.alloc o).free
  go_wp2_with fail
  refine (FT.out _ _ p0).mono ?_
  rintro e wa7 ⟨x2, rfl, o2, b⟩
  replace p0 := p0.below b; replace p1 := p1.below b; try clear c_g5 f_g5 a_g5 d_g5 e_g5
  replace g5 := g5.below b; have c_g5 := g5.cell; have f_g5 := g5.free; have a_g5 := fun o => (g5.alloc o).cell; have d_g5 := fun o o2 => ((g5.alloc o).alloc o2).cell; have e_g5 := fun o => (g5.alloc o).free; replace B := B.trans (b.mono B.size); clear b
  have p2 := o2.rd
  clear o2
  have e0 := Rd.len p0 Try.underlying25; have e1 := Rd.len p1 Try.underlying25; have e2 := Rd.len p2 Try.underlying92
  rw [N0.out] at e0; rw [N1.out] at e1
  have e0' : ∀ ty W, (Builtin.len_ #[25] ty #[v0]).run Try.prog W = .ok (.int .i64 256) W := e0
  have e1' : ∀ ty W, (Builtin.len_ #[25] ty #[v1]).run Try.prog W = .ok (.int .i64 256) W := e1
  have e2' : ∀ ty W, (Builtin.len_ #[92] ty #[x2]).run Try.prog W = .ok (.int .i64 1) W := e2
  clear e0 e1 e2
  go_wp2_with fail
  refine (TT.out _ _ p1).mono ?_
  rintro e wa8 ⟨rfl, b⟩
  replace p0 := p0.below b; replace p1 := p1.below b; replace p2 := p2.below b; try clear c_g5 f_g5 a_g5 d_g5 e_g5
  replace g5 := g5.below b; have c_g5 := g5.cell; have f_g5 := g5.free; have a_g5 := fun o => (g5.alloc o).cell; have d_g5 := fun o o2 => ((g5.alloc o).alloc o2).cell; have e_g5 := fun o => (g5.alloc o).free; replace B := B.trans (b.mono B.size); clear b
  go_upto_region 8 with (fail)
  refine wp_gen (fun Wv => Bx Wv (wa8.heap.size) (80) (#[.int .i64 256, .int .i64 1]) ∧ Bx Wv (wa8.heap.size + 1) (95) (#[.bool true, .bool true]) ∧ Below wa8.heap.size wa8 Wv) ⟨(((Bx.at_ (by simp)).alloc _)), ((Bx.at_ (by simp))), (((Below.refl _ wa8).alloc (by simp <;> omega) _).alloc (by simp <;> omega) _)⟩ ?_
  rintro wa9 ⟨g9, g10, b⟩
  replace p0 := p0.below b; replace p1 := p1.below b; replace p2 := p2.below b; try clear c_g5 f_g5 a_g5 d_g5 e_g5
  replace g5 := g5.below b; have c_g5 := g5.cell; have f_g5 := g5.free; have a_g5 := fun o => (g5.alloc o).cell; have d_g5 := fun o o2 => ((g5.alloc o).alloc o2).cell; have e_g5 := fun o => (g5.alloc o).free; replace B := B.trans (b.mono B.size); clear b
  have c_g9 := g9.cell; have f_g9 := g9.free; have a_g9 := fun o => (g9.alloc o).cell; have d_g9 := fun o o2 => ((g9.alloc o).alloc o2).cell; have e_g9 := fun o => (g9.alloc o).free
  have c_g10 := g10.cell; have f_g10 := g10.free; have a_g10 := fun o => (g10.alloc o).cell; have d_g10 := fun o o2 => ((g10.alloc o).alloc o2).cell; have e_g10 := fun o => (g10.alloc o).free
  obtain ⟨a6, z6, i6, m6, h6⟩ := Words.at_ (P := Try.prog) p1 Try.underlying25 one_u64 (k := 96) (by rw [N1.out]; omega)
  obtain ⟨a7, z7, i7, m7, h7⟩ := Words.at_ (P := Try.prog) p1 Try.underlying25 one_u64 (k := 97) (by rw [N1.out]; omega)
  obtain ⟨a8, z8, i8, m8, h8⟩ := Words.at_ (P := Try.prog) p0 Try.underlying25 one_u64 (k := 96) (by rw [N0.out]; omega)
  obtain ⟨b, o, s, ib, k0, k1, -, -, -, -, hs, -⟩ := p2.at_ (k := 0) (by simp)
  obtain rfl : z6 = a := by have := h6.out; rw [H6.out] at this; injection this with this; exact this.symm
  obtain rfl : z7 = c := by have := h7.out; rw [H7.out] at this; injection this with this; exact this.symm
  obtain rfl : z8 = 0 := by have := h8.out; rw [HF.out] at this; injection this with this; exact this.symm
  obtain rfl : s = ⟨128, 128, 2, 0, false, 0⟩ := by have := hs.out; simpa using this.symm
  have i6' : ∀ W, (Instr.indexAt 25 v1 (.int .i64 96)).run Try.prog W = .ok (.pointer (some a6)) W := i6
  have i7' : ∀ W, (Instr.indexAt 25 v1 (.int .i64 97)).run Try.prog W = .ok (.pointer (some a7)) W := i7
  have i8' : ∀ W, (Instr.indexAt 25 v0 (.int .i64 96)).run Try.prog W = .ok (.pointer (some a8)) W := i8
  have ib' : ∀ W, (Instr.indexAt 92 x2 (.int .i64 0)).run Try.prog W = .ok (.pointer (some ⟨b, o, none⟩)) W := ib
  have m8' : wa9.cell? a8 = some (.int .u64 0) := m8
  have k0' : wa9.cell? ⟨b, o, none⟩ = some (.int .i64 128) := k0
  have k1' : wa9.cell? ⟨b, o + 1, none⟩ = some (.int .i64 128) := k1
  clear i6 i7 i8 ib m8 h6 h7 h8 hs k0 k1
  have r1 := q1.out; have r2 := q2.out
  go_big_quiet (fail)
  go_wp2
  go_ret
  exact ⟨rfl, below_drewN B _⟩
end Go.Proofs.Ytodbbacmdjcheaa
namespace Go.Proofs.Ytodbbacmdjcheaa
open Go.RowKit L02 L05 L06 L07 L13 L14 L15 L16 L19 L73 L75
end Go.Proofs.Ytodbbacmdjcheaa
namespace Go.Proofs.Ytodbbacmdjcheaa.L74
open L02 L05 L06 L07 L13 L14 L15 L16 L18 L19 L73
theorem ext0 {a b : List UInt64} (hl : a.length = b.length) (h : ∀ i, i < a.length → a.getD i 0 = b.getD i 0) : a = b := by
  apply List.ext_getElem hl
  intro i h1 h2
  have := h i h1
  rw [List.getD_eq_getElem?_getD, List.getD_eq_getElem?_getD, List.getElem?_eq_getElem h1, List.getElem?_eq_getElem h2] at this
  exact this
theorem tysP_far (l : List UInt64) (T : List (List UInt8)) (hl : 112 ≤ l.length) : ∀ k, k ≤ 8 → ∀ i, (i < 96 ∨ 96 + 2 * k ≤ i) → (tysP l T k).getD i 0 = l.getD i 0
  | 0, _, i, h => rfl
  | k + 1, hk, i, h => by
    rw [tysP, putP_getD _ _ _ _ (by rw [tysP_len]; simp; omega), if_neg (by simp; omega)]
    exact tysP_far l T hl k (by omega) i (by omega)
/-- every word of a new image -/
theorem imageP_getD {n : Nat} {T : List (List UInt8)} (hn : 256 ≤ n) (hT : T.length ≤ 8) (i : Nat) : (imageP n T).getD i 0 =
    if i = 128 then word ⟨0, (n : Int) - 128, 2, 0, false, 0⟩ else if 8 ≤ i ∧ i < 16 then (wordsOf n T.length).getD (i - 8) 0 else if i < 8 then (wordsOf n T.length).getD i 0 else (tysP (List.replicate n 0) T T.length).getD i 0 := by
  have h8 : (wordsOf n T.length).length = 8 := len_words _ _
  have hl : (tysP (List.replicate n 0) T T.length).length = n := by rw [tysP_len, List.length_replicate]
  rw [imageP, putP_getD _ _ _ _ (by rw [putW_len, putW_len, hl]; simp; omega)]
  by_cases e : i = 128
  · subst e; rw [if_pos (by simp), if_pos rfl]; rfl
  · rw [if_neg (by simp; omega), if_neg e, putP_getD _ _ _ _ (by rw [putW_len, hl, h8]; omega), putP_getD _ _ _ _ (by rw [hl, h8]; omega), h8]
    by_cases a : 8 ≤ i ∧ i < 16
    · rw [if_pos (show 8 ≤ i ∧ i < 8 + 8 from a), if_pos a]
    · rw [if_neg (show ¬ (8 ≤ i ∧ i < 8 + 8) from a), if_neg a]
      by_cases b : i < 8
      · rw [if_pos (show 0 ≤ i ∧ i < 0 + 8 by omega), if_pos b]; rfl
      · rw [if_neg (show ¬ (0 ≤ i ∧ i < 0 + 8) by omega), if_neg b]
theorem imageP_zero {n : Nat} {T : List (List UInt8)} (hn : 256 ≤ n) (hT : T.length ≤ 8) {i : Nat} (h1 : 16 ≤ i) (h2 : i < 96 ∨ 96 + 2 * T.length ≤ i) (h3 : i ≠ 128) : (imageP n T).getD i 0 = 0 := by
  rw [imageP_getD hn hT, if_neg h3, if_neg (by omega), if_neg (by omega), tysP_far _ _ (by simp; omega) _ hT _ h2, List.getD_eq_getElem?_getD]
  by_cases h : i < n
  · rw [List.getElem?_replicate_of_lt h]; rfl
  · rw [List.getElem?_eq_none (by simp; omega)]; rfl
/-- what a right new image is asked for -/
structure Nw (n : Nat) (T : List (List UInt8)) : Prop where
  sz : SizeOk n
  len : T.length ≤ 8
  ok : ∀ t ∈ T, kErr t = 0
variable {n : Nat} {T : List (List UInt8)}
theorem Nw.le (h : Nw n T) : 256 ≤ n ∧ n ≤ 2048 := by have h1 := h.sz.1; have h2 := h.sz.2.1; omega
theorem Nw.sizeOk (h : Nw n T) : SizeOk (imageP n T).length := by rw [imageP_len]; exact h.sz
theorem Nw.sup (h : Nw n T) : SupOk n T.length := ⟨h.sz, by omega, by have := h.len; omega⟩
theorem Nw.bk (h : Nw n T) : BkOk ⟨0, (n : Int) - 128, 2, 0, false, 0⟩ := by
  have := h.sz; unfold SizeOk at this
  exact ⟨⟨show (2 : Int) ≤ (n : Int) - 128 by omega, show ((n : Int) - 128) % 2 = 0 by omega⟩, .inr ⟨rfl, rfl, rfl, show (n : Int) - 128 ≤ 1920 by omega⟩⟩
theorem getD_take {l : List UInt64} {k i : Nat} (h : i < k) : (l.take k).getD i 0 = l.getD i 0 := by
  rw [List.getD_eq_getElem?_getD, List.getD_eq_getElem?_getD, List.getElem?_take_of_lt h]
theorem getD_drop (l : List UInt64) (k i : Nat) : (l.drop k).getD i 0 = l.getD (k + i) 0 := by
  rw [List.getD_eq_getElem?_getD, List.getD_eq_getElem?_getD, List.getElem?_drop]
theorem Nw.c0 (h : Nw n T) : c0 (imageP n T) = wordsOf n T.length := by
  have hl := h.le
  refine ext0 (by rw [c0_len h.sizeOk, len_words]) fun i hi => ?_
  rw [c0_len h.sizeOk] at hi
  rw [L07.c0, getD_take hi, imageP_getD hl.1 h.len, if_neg (by omega), if_neg (by omega), if_pos hi]
theorem Nw.c1 (h : Nw n T) : c1 (imageP n T) = wordsOf n T.length := by
  have hl := h.le
  refine ext0 (by rw [c1_len h.sizeOk, len_words]) fun i hi => ?_
  rw [c1_len h.sizeOk] at hi
  rw [L07.c1, getD_take hi, getD_drop, imageP_getD hl.1 h.len, if_neg (by omega), if_pos (by omega), Nat.add_sub_cancel_left]
theorem Nw.copy (h : Nw n T) : CopyOk (imageP n T).length (wordsOf n T.length) := good_words h.sup (by rw [imageP_len])
theorem Nw.is (h : Nw n T) : is0 (imageP n T) = true ∧ is1 (imageP n T) = true := by
  rw [is0_good h.sizeOk, is1_good h.sizeOk, h.c0, h.c1]
  exact ⟨decide_eq_true h.copy, decide_eq_true h.copy⟩
theorem Nw.tw (h : Nw n T) : rErr (imageP n T) = 0 := rErr_mk h.sizeOk (.inl h.is.1)
theorem Nw.sT (h : Nw n T) : sT (imageP n T) = T.length := by
  rw [L07.sT, if_pos h.tw, one, if_pos h.is.1, h.c0, at3_words h.sup]
theorem Nw.ta (h : Nw n T) {i : Nat} (hi : i < T.length) : ta (imageP n T) i = w0 (T.getD i []) ∧ tb (imageP n T) i = L13.w1 (T.getD i []) := (imageP_at h.le.1 h.len).2 i hi
theorem Nw.tz (h : Nw n T) {i : Nat} (h1 : T.length ≤ i) (h2 : i < 8) : L13.ta (imageP n T) i = 0 ∧ tb (imageP n T) i = 0 :=
  ⟨imageP_zero h.le.1 h.len (by omega) (by omega) (by omega), imageP_zero h.le.1 h.len (by omega) (by omega) (by omega)⟩
theorem Nw.okD (h : Nw n T) {i : Nat} (hi : i < T.length) : kErr (T.getD i []) = 0 := by
  rw [List.getD_eq_getElem?_getD, List.getElem?_eq_getElem hi]; exact h.ok _ (List.getElem_mem hi)
theorem Nw.tys (h : Nw n T) : TysOk (imageP n T) T.length := fun i hi => by
  unfold TyOk
  by_cases e : i < T.length
  · rw [if_pos e, (h.ta e).1, (h.ta e).2]; exact (rd_of_write (h.okD e)).1
  · rw [if_neg e]; exact h.tz (by omega) hi
theorem Nw.tab (h : Nw n T) : tabErr (imageP n T) (L07.sT (imageP n T)) = 0 := by
  rw [h.sT, tabErr, if_pos h.sizeOk, if_pos ⟨by omega, by have := h.len; omega⟩, if_pos (by rw [Int.toNat_natCast]; exact h.tys)]
theorem Nw.tyT (h : Nw n T) : T19 (imageP n T) = T := by
  rw [T19, tabT, if_pos h.tab, h.sT, Int.toNat_natCast]
  apply List.ext_getElem
  · rw [tysTo_len]
  · intro i h1 h2
    simp only [tysTo, List.getElem_map, List.getElem_range]
    rw [(h.ta h2).1, (h.ta h2).2, (rd_of_write (h.okD h2)).2, List.getD_eq_getElem?_getD, List.getElem?_eq_getElem h2]; rfl
theorem Nw.ws (h : Nw n T) : ws (imageP n T) = List.replicate 16 0 := by
  have hl := h.le
  refine ext0 (by rw [L18.ws, List.length_take, List.length_drop, imageP_len, List.length_replicate]; omega) fun i hi => ?_
  rw [L18.ws, List.length_take, List.length_drop, imageP_len] at hi
  rw [L18.ws, getD_take (by omega), getD_drop, imageP_zero hl.1 h.len (by omega) (by have := h.len; omega) (by omega), List.getD_eq_getElem?_getD, List.getElem?_replicate_of_lt (by omega)]; rfl
theorem Nw.slots (h : Nw n T) : slots (imageP n T) = List.replicate 16 .none := by
  rw [L18.slots, h.ws, List.map_replicate]; rw [show spl 0 = Sl.none by decide]
theorem Nw.sl (h : Nw n T) : openErr (imageP n T) = 0 := by
  rw [openErr, if_pos h.sizeOk, if_pos]
  intro x hx
  rw [h.ws] at hx
  rw [List.eq_of_mem_replicate hx]; decide
/-- the one block -/
def nwB (n : Nat) : Hb := ⟨128, (n : Int) - 128, 2, 0, false, 0⟩
theorem Nw.head (h : Nw n T) : (imageP n T).getD 128 0 = word ⟨0, (n : Int) - 128, 2, 0, false, 0⟩ := by rw [imageP_getD h.le.1 h.len, if_pos rfl]
theorem Nw.stOk (h : Nw n T) : StOk (imageP n T) 128 := by
  have hl := h.le
  refine ⟨by rw [h.head]; exact hd_word h.bk, ?_⟩
  rw [h.head, split_word h.bk, imageP_len]; show (128 : Int) + ((n : Int) - 128) ≤ n; omega
theorem Nw.stand (h : Nw n T) : stand (imageP n T) 128 = nwB n := by
  rw [L15.stand, h.head, split_word h.bk, imageP_zero h.le.1 h.len (by omega) (by have := h.len; omega) (by omega)]; rfl
theorem Nw.parsed (h : Nw n T) : parsed (imageP n T) = some [nwB n] := by
  have hl := h.le
  rw [parsed_ok]
  have hz : szN (imageP n T) 128 = n - 128 := by
    rw [szN, h.head, split_word h.bk]; show ((n : Int) - 128).toNat = n - 128; omega
  refine ⟨?_, fun a => by simp [Adj] at a⟩
  rw [from_step (by rw [imageP_len]; omega) h.stOk, hz, h.stand, show 128 + (n - 128) = (imageP n T).length by rw [imageP_len]; omega, from_end]; rfl
theorem Nw.al (h : Nw n T) : allErr (imageP n T) = 0 := by rw [allErr, if_pos h.sizeOk, if_pos (by rw [h.parsed]; rfl)]
theorem Nw.allL (h : Nw n T) : allL (imageP n T) = [nwB n] := by rw [L15.allL, if_pos h.al, h.parsed]; rfl
theorem Nw.objs (h : Nw n T) : O19 (imageP n T) = [] := by rw [O19, h.allL]; rfl
theorem Nw.free (h : Nw n T) : freeL (imageP n T) = [nwB n] := by rw [freeL, h.allL]; rfl
theorem Nw.rt (h : Nw n T) : Rt (imageP n T) := by
  have hl := h.le
  refine ⟨h.sizeOk, h.tw, fun i hi => imageP_zero hl.1 h.len (by omega) (by omega) (by omega), fun i hi => imageP_zero hl.1 h.len (by omega) (by omega) (by omega), h.tab, h.sl, h.al, fun i _ _ b hb => ?_, fun s hs hu => ?_⟩
  · rw [h.objs] at hb; simp at hb
  · rw [h.slots] at hs; rw [List.eq_of_mem_replicate hs] at hu; cases hu
theorem Nw.seen (h : Nw n T) : L19.seen (imageP n T) = ⟨T, [], List.replicate 16 .none⟩ := by
  rw [L19.seen, h.tyT, h.objs, h.slots, List.map_replicate]; rfl
end Go.Proofs.Ytodbbacmdjcheaa.L74
namespace Go.Proofs.Ytodbbacmdjcheaa.L76
open L02 L05 L06 L07 L13 L14 L15 L16 L18 L19 L73 L74
/-- two words stored, in either order -/
def two36 (M : List UInt64) (p q : Nat) (a b : UInt64) (b1 b2 : Bool) : List UInt64 :=
  let M1 := if b1 then M.set p a else M
  if b2 then M1.set q b else M1
theorem two36_len (M : List UInt64) (p q : Nat) (a b : UInt64) (b1 b2 : Bool) : (two36 M p q a b b1 b2).length = M.length := by
  cases b1 <;> cases b2 <;> simp [two36]
end Go.Proofs.Ytodbbacmdjcheaa.L76
namespace Go.Proofs.Ytodbbacmdjcheaa
open Go.RowKit L02 L05 L06 L07 L13 L14 L15 L16 L18 L19 L73 L74 L76
theorem own_ix36 {P : Program} {W : World} {B e g c n j t e' : Nat} {xs : List Value} (h : W.ownsRow B e 1 (.slice (some ⟨g, 0, none⟩) n c) n xs) (ht : P.underlying t = some (.slice e')) (hi : (P.info? e').map (·.size) = some 1) (hj : j < n) :
    ∀ W', (Instr.indexAt t (.slice (some ⟨g, 0, none⟩) n c) (.int .i64 (j : Int))).run P W' = .ok (.pointer (some ⟨g, j, none⟩)) W' := by
  intro W'
  have := Rd.ixN (Rd.of_own h) ht hi hj W'
  simpa [cellAt] using this
theorem own_put36 {W : World} {B e g c n j : Nat} {xs : List Value} (h : W.ownsRow B e 1 (.slice (some ⟨g, 0, none⟩) n c) n xs) (hj : j < n) (u : Value) :
    (∃ u0, W.cell? ⟨g, j, none⟩ = some u0) ∧ W.frozen? ⟨g, j, none⟩ = false ∧ (W.setCell ⟨g, j, none⟩ u).ownsRow B e 1 (.slice (some ⟨g, 0, none⟩) n c) n (xs.set j u) ∧ B ≤ g ∧ g < W.heap.size := by
  obtain ⟨g', cap, cur, hv, hB, hg, hnc, hcm, hcs, htake⟩ := own_form h (by omega)
  have hxl : j < xs.length := by have := h.1; omega
  have hcell := Rd.cell (Rd.of_own h) (j := j) (u := xs[j]) (List.getElem?_eq_getElem hxl)
  have e2 : cellAt (.slice (some ⟨g, 0, none⟩) n c) j = ⟨g, j, none⟩ := by simp [cellAt]
  rw [e2] at hcell
  cases hv
  exact ⟨⟨_, hcell⟩, h.frozenAt j, (h.stored j u).1, hB, (Array.getElem?_eq_some_iff.1 hg).1⟩
theorem store_word36 {W : World} {ad : Addr} {u0 : Value} (hc : W.cell? ad = some u0) (hf : W.frozen? ad = false) (x : Nat) :
    (Instr.storeAt 64 (.pointer (some ad)) (.int .u64 (x : Int))).run Try.prog W = .ok () (W.setCell ad (.int .u64 (x : Int))) := by
  simp [go_sem, hc, hf]
/-- two words are stored into an own row; a block lies by -/
def FT36 (w0 : World) (B g n c : Nat) (M : List UInt64) (p q : Nat) (a b : UInt64) (gp : Nat) (t : TypeId) (cs : Array Value) : Bool → Bool → World → Prop := fun b1 b2 W =>
  Below B w0 W ∧ OwnW W B 64 (.slice (some ⟨g, 0, none⟩) n c) (two36 M p q a b b1 b2) ∧ Bx W gp t cs
section
variable {w0 : World} {B g n c : Nat} {M : List UInt64} {p q : Nat} {a b : UInt64} {gp : Nat} {t : TypeId} {cs : Array Value}
theorem FT36.step {b1 b2 b1' b2' : Bool} {j : Nat} {x : UInt64} {W : World} (hn : M.length = n) (hj : j < n) (hg : gp ≠ g) (hs : (two36 M p q a b b1 b2).set j x = two36 M p q a b b1' b2') (h : FT36 w0 B g n c M p q a b gp t cs b1 b2 W) :
    ∃ W', (Instr.storeAt 64 (.pointer (some ⟨g, j, none⟩)) (.int .u64 x.toNat)).run Try.prog W = .ok () W' ∧ FT36 w0 B g n c M p q a b gp t cs b1' b2' W' := by
  obtain ⟨h1, h2, h3⟩ := h
  unfold OwnW at h2
  rw [two36_len, hn] at h2
  obtain ⟨⟨u0, c1⟩, c2, c3, c4, c5⟩ := own_put36 h2 hj (.int .u64 x.toNat)
  refine ⟨_, store_word36 c1 c2 _, h1.setCell (p := ⟨g, j, none⟩) c4 _, ?_, h3.far (p := ⟨g, j, none⟩) hg _⟩
  rw [← hs]
  refine OwnW.of c3 ?_
  rw [List.map_set]; rfl
theorem FT36.cell (x : FX (FT36 w0 B g n c M p q a b gp t cs)) (i : Nat) : x.W.cell? ⟨gp, i, none⟩ = cs[i]? := by obtain ⟨W, b1, b2, h⟩ := x; exact h.2.2.cell i
theorem FT36.start {W : World} (h1 : Below B w0 W) (h2 : OwnW W B 64 (.slice (some ⟨g, 0, none⟩) n c) M) (h3 : Bx W gp t cs) : FT36 w0 B g n c M p q a b gp t cs false false W.drew := ⟨h1.drew, h2, h3⟩
end
end Go.Proofs.Ytodbbacmdjcheaa
