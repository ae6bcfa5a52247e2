/- Contracts of the functions that the laws 'N' reach, part 14. No condition. -/
import Derived.Test.YtodbbacmdjcheaaMNm
set_option linter.unusedVariables false
set_option linter.unusedSimpArgs false
namespace Go.Proofs.Ytodbbacmdjcheaa.L19
open L02 L07 L13 L14 L15 L16 L18 L20
/-- the error of a handle of an image -/
def askI (l : List UInt64) (sl g : Int) : Int := if chk19 l = 0 then resErr l sl g else chk19 l
def atI (l : List UInt64) (sl g : Int) : Int := if askI l sl g = 0 then res l sl g else 0
/-- the error of a field, its address, its kind -/
def kiErr (l : List UInt64) (sl g n : Int) : Int := if askI l sl g = 0 then (if 0 ≤ n ∧ n < (kinds (seen l) sl).length then 0 else 2) else askI l sl g
def kiAt (l : List UInt64) (sl g n : Int) : Int := if kiErr l sl g n = 0 then res l sl g + 2 + n else 0
def kiK (l : List UInt64) (sl g n : Int) : UInt8 := if kiErr l sl g n = 0 then (kinds (seen l) sl).getD n.toNat 0 else 0
def wdI (l : List UInt64) (sl g n : Int) : UInt64 := l.getD (kiAt l sl g n).toNat 0
def giE (l : List UInt64) (sl g n : Int) : Int := if kiErr l sl g n = 0 then (if (kiK l sl g n).toNat = 3 then 42 else 0) else kiErr l sl g n
def siL (l : List UInt64) (sl g n : Int) (x : UInt64) : List (Int × UInt64) := if giE l sl g n = 0 then [(kiAt l sl g n, setV (kiK l sl g n) x)] else []
/-- a handle that is right: its slot, its object -/
structure Hd (l : List UInt64) (k a nn q : Nat) (sg : Int) (b : Hb) (t : List UInt8) : Prop where
  rt : Rt l
  hk : k < 16
  hs : (slots l)[k]? = some ⟨sg, true, a⟩
  ho : (O19 l)[nn]? = some b
  hat : b.at_ = a
  hty : b.ty = q
  hT : (T19 l)[q]? = some t
  hkB : kindsB (T19 l) b = t
  ha1 : 128 ≤ a
  ha2 : a < 2048
  hle : a + 2 + t.length ≤ l.length
  hn8 : t.length ≤ 8
  hres : res l k sg = a
  hr : resErr l k sg = 0
  hask : askI l k sg = 0
  hati : atI l k sg = a
  hnn : nn < 960
theorem Hd.of {l : List UInt64} {sl g : Int} (h : askI l sl g = 0) : ∃ k a nn q b t, sl = ((k : Nat) : Int) ∧ Hd l k a nn q g b t := by
  have h0 := h
  unfold askI at h
  split at h
  · rename_i hc
    have rt : Rt l := Rt.of hc
    obtain ⟨_, k, s, hk, e1, hs, hu, hg, hr, e2⟩ := resErr_ok h
    obtain ⟨sg, su, sa⟩ := s
    dsimp only at hu hg e2
    subst hu; subst hg
    obtain ⟨nn, b, i1, i2, i3, i4⟩ := idx_of (rt.slots _ (List.mem_of_getElem? hs) rfl)
    dsimp only at i1 i3
    obtain ⟨a, q, t, ha, hq, hTq, hkB, ha1, ha2, hle, hn8⟩ : ∃ (a q : Nat) (t : List UInt8), b.at_ = a ∧ b.ty = q ∧ (T19 l)[q]? = some t ∧ kindsB (T19 l) b = t ∧ 128 ≤ a ∧ a ≤ 2048 ∧ a + 2 + t.length ≤ l.length ∧ t.length ≤ 8 := by
      have hb := List.mem_of_getElem? i2
      obtain ⟨a, h1, h2, h3, h4, h5, h6, h7, h8, _⟩ := objs_at rt.al hb
      have hty : Typed (T19 l) b := rt.good 8 (by omega) (by omega) b hb
      have hok : BkOk b := by rw [h6]; exact stand_ok h5
      obtain ⟨q, hq⟩ := Int.eq_ofNat_of_zero_le hok.bounds.2.2.2.2.1
      have hlt : q < (T19 l).length := by have := hty.1; omega
      have hT : (T19 l)[q]? = some (T19 l)[q] := List.getElem?_eq_getElem hlt
      have hkB : kindsB (T19 l) b = (T19 l)[q] := by unfold kindsB; rw [hq, Int.toNat_natCast, List.getD_eq_getElem?_getD, hT]; rfl
      have hsz := hty.2
      rw [hkB] at hsz
      have := rt.sz.2.1
      exact ⟨a, q, _, h2, hq, hT, hkB, h1, by omega, by omega, (kErr_ok ((T19_ok rt.ty).2 _ (List.mem_of_getElem? hT))).1⟩
    have hsa : sa = a := by rw [← ha, i3]
    subst hsa
    have hOl := objs_len rt.al
    subst e1
    refine ⟨k, a, nn, q, b, t, rfl, rt, hk, hs, i2, ha, hq, hTq, hkB, ha1, ?_, hle, hn8, e2, h, h0, ?_, by omega⟩
    · have := rt.sz.2.1; omega
    · rw [atI, if_pos h0, e2]
  · omega
theorem Hd.own {l : List UInt64} {k a nn q : Nat} {sg : Int} {b : Hb} {t : List UInt8} (h : Hd l k a nn q sg b t) : own (seen l) k = nn := by
  unfold L20.own seen
  rw [Int.toNat_natCast, List.getD_eq_getElem?_getD, List.getElem?_map, h.hs, Option.map_some]
  unfold slOf
  rw [if_pos rfl, ← h.hat, idx_at h.rt.al h.ho]
  rfl
theorem Hd.ob {l : List UInt64} {k a nn q : Nat} {sg : Int} {b : Hb} {t : List UInt8} (h : Hd l k a nn q sg b t) : ob (seen l) nn = obOf l (T19 l) (O19 l) b := by
  unfold L20.ob seen
  rw [List.getD_eq_getElem?_getD, List.getElem?_map, h.ho]; rfl
theorem Hd.kinds {l : List UInt64} {k a nn q : Nat} {sg : Int} {b : Hb} {t : List UInt8} (h : Hd l k a nn q sg b t) : kinds (seen l) k = t := by
  unfold L20.kinds
  rw [h.own, h.ob]
  show kindsB (T19 l) b = t
  exact h.hkB
/-- a field that is there -/
structure Fd (l : List UInt64) (k a nn q i : Nat) (sg : Int) (b : Hb) (t : List UInt8) (kd : UInt8) (x : UInt64) : Prop where
  hd : Hd l k a nn q sg b t
  hi : i < t.length
  hkd : t[i]? = some kd
  hx : l[a + 2 + i]? = some x
  hE : kiErr l k sg i = 0
  hAt : kiAt l k sg i = ((a + 2 + i : Nat) : Int)
  hK : kiK l k sg i = kd
  hW : wdI l k sg i = x
  ref : kd.toNat = 3 → x = 0 ∨ IsObj (O19 l) x.toNat
theorem Fd.of {l : List UInt64} {sl g n : Int} (h : kiErr l sl g n = 0) : ∃ k a nn q i b t kd x, sl = ((k : Nat) : Int) ∧ n = ((i : Nat) : Int) ∧ Fd l k a nn q i g b t kd x := by
  have h0 := h
  unfold kiErr at h
  split at h
  · rename_i ha
    split at h
    · rename_i hn
      obtain ⟨k, a, nn, q, b, t, rfl, hd⟩ := Hd.of ha
      obtain ⟨i, rfl⟩ := Int.eq_ofNat_of_zero_le hn.1
      have hi : i < t.length := by have := hn.2; rw [hd.kinds] at this; omega
      have hAt : kiAt l k g i = ((a + 2 + i : Nat) : Int) := by rw [kiAt, if_pos h0, hd.hres]; omega
      have hlt : a + 2 + i < l.length := by have := hd.hle; omega
      refine ⟨k, a, nn, q, i, b, t, t[i], l[a + 2 + i], rfl, rfl, hd, hi, List.getElem?_eq_getElem hi, List.getElem?_eq_getElem hlt, h0, hAt, ?_, ?_, ?_⟩
      · rw [kiK, if_pos h0, hd.kinds, Int.toNat_natCast, List.getD_eq_getElem?_getD, List.getElem?_eq_getElem hi]; rfl
      · rw [wdI, hAt, Int.toNat_natCast, List.getD_eq_getElem?_getD, List.getElem?_eq_getElem hlt]; rfl
      · intro h3
        have := hd.rt.good 11 (by omega) (by omega) b (List.mem_of_getElem? hd.ho) i (by rw [hd.hkB]; exact hi) (by rw [hd.hkB, List.getD_eq_getElem?_getD, List.getElem?_eq_getElem hi]; exact h3)
        have hf : fw l b i = l[a + 2 + i] := by unfold fw; rw [hd.hat, Int.toNat_natCast, List.getD_eq_getElem?_getD, List.getElem?_eq_getElem hlt]; rfl
        rw [hf] at this; exact this
    · omega
  · rename_i ha; exact absurd h ha
end Go.Proofs.Ytodbbacmdjcheaa.L19
namespace Go.Proofs.Ytodbbacmdjcheaa.L20
open L02 L13 L18
theorem zeros_get (n i : Nat) : (List.replicate n (0 : UInt64)).getD i 0 = 0 := by
  rw [List.getD_eq_getElem?_getD, List.getElem?_replicate]; split <;> rfl
/-- what is known of an object that was allocated -/
structure Alld (m : Mo) (t : Int) (k : Nat) (g0 : Int) : Prop where
  hc : chk m = 0
  ht : 0 ≤ t ∧ t < m.types.length
  hn : m.objs.length < 960
  hk : k < 16
  hs : m.slots[k]? = some ⟨g0, false, 0⟩
  hg : 0 ≤ g0 ∧ g0 < 2147483647
  hM : allM m t = ⟨m.types, m.objs ++ [newO m t], m.slots.set k ⟨g0 + 1, true, m.objs.length⟩⟩
  hS : allS m t = k
  hG : allG m t = g0 + 1
theorem Alld.of {m : Mo} {t : Int} (h : allE m t = 0) : ∃ k g0, Alld m t k g0 := by
  have h' := h
  unfold allE at h
  split at h
  · rename_i hc
    obtain ⟨h8, h960, h16, hty, hobs, hsl⟩ := chk_ok hc
    split at h
    · rename_i ht
      split at h
      · omega
      · rename_i hnx
        split at h
        · omega
        · rename_i hl
          obtain ⟨k, hk⟩ := Option.ne_none_iff_exists'.1 hnx
          obtain ⟨_, ⟨s, hs, hu, hg1⟩, _⟩ := nextFrom_some hk
          rw [Nat.sub_zero] at hs
          have hkl : k < 16 := by have := (List.getElem?_eq_some_iff.1 hs).1; omega
          have hsk := hsl s (List.mem_of_getElem? hs)
          obtain ⟨g0, u, a⟩ := s
          dsimp only at hu hg1
          subst hu
          obtain rfl : a = 0 := hsk.2.1 rfl
          have hgd : m.slots.getD k .none = ⟨g0, false, 0⟩ := by rw [List.getD_eq_getElem?_getD, hs]; rfl
          have hg2 := hsk.1
          dsimp only at hg2
          refine ⟨k, g0, hc, ht, by omega, hkl, hs, by omega, ?_, ?_, ?_⟩
          · rw [allM, if_pos h', hk, Option.getD_some, givS, hgd]
          · rw [allS, if_pos h', hk, Option.getD_some]
          · rw [allG, if_pos h', hk, Option.getD_some, hgd]
    · omega
  · omega
section
variable {m : Mo} {t : Int} {k : Nat} {g0 : Int} (h : Alld m t k g0)
include h
/-- the new model -/
theorem Alld.slot : (m.slots.set k ⟨g0 + 1, true, m.objs.length⟩)[k]? = some ⟨g0 + 1, true, m.objs.length⟩ := by
  have h1 := (List.getElem?_eq_some_iff.1 h.hs).1
  rw [List.getElem?_set_self h1]
theorem Alld.ok : chk (allM m t) = 0 := by
  obtain ⟨h8, h960, h16, hty, hobs, hsl⟩ := chk_ok h.hc
  have hn := h.hn
  rw [h.hM]
  refine chk_zero (by simp; omega) ⟨by simpa using h16, hty, fun o ho => ?_, fun s hs => ?_⟩
  · rcases List.mem_append.1 ho with ho | ho
    · obtain ⟨a1, a2, a3⟩ := hobs o ho
      refine ⟨a1, a2, fun i hi => ?_⟩
      obtain ⟨b1, b2⟩ := a3 i hi
      exact ⟨b1, fun e => Nat.le_trans (b2 e) (by simp)⟩
    · rw [List.mem_singleton] at ho
      subst ho
      have ht := h.ht
      refine ⟨ht, by simp [newO, ty], fun i hi => ?_⟩
      simp only [newO, zeros_get]
      exact ⟨fun _ => by decide, fun _ => by simp⟩
  · rcases List.mem_or_eq_of_mem_set hs with hs | hs
    · obtain ⟨a1, a2, a3⟩ := hsl s hs
      exact ⟨a1, a2, fun e => by have := a3 e; simp; omega⟩
    · subst hs
      have := h.hg
      refine ⟨?_, ?_, ?_⟩
      · dsimp only; omega
      · intro e; cases e
      · intro _; simp; omega
theorem Alld.len : (allM m t).objs.length = m.objs.length + 1 := by rw [h.hM]; simp
theorem Alld.right : rightErr (allM m t).slots k (g0 + 1) = 0 := by
  have hk := h.hk
  have hs := h.slot
  have h16 := (chk_ok h.hc).2.2.1
  have hgd : (m.slots.set k ⟨g0 + 1, true, m.objs.length⟩).getD k .none = ⟨g0 + 1, true, m.objs.length⟩ := by rw [List.getD_eq_getElem?_getD, hs]; rfl
  rw [h.hM, rightErr, if_pos (by simp; omega), if_pos]
  rw [Int.toNat_natCast, hgd]
  exact ⟨rfl, rfl⟩
theorem Alld.own : own (allM m t) k = m.objs.length := by
  rw [L20.own, Int.toNat_natCast, h.hM, List.getD_eq_getElem?_getD, h.slot]; simp
theorem Alld.idle : ¬ Busy (allM m t) k m.objs.length := by
  obtain ⟨h8, h960, h16, hty, hobs, hsl⟩ := chk_ok h.hc
  rw [h.hM]
  rintro (⟨i, hi, hne, hu, ha⟩ | ⟨i, hi, hne, j, hj, hr⟩)
  · have hik : k ≠ i := fun e => hne (by rw [e])
    have hi' : i < m.slots.length := by simpa using hi
    have e : (m.slots.set k ⟨g0 + 1, true, m.objs.length⟩).getD i .none = m.slots[i] := by
      rw [List.getD_eq_getElem?_getD, List.getElem?_set_ne hik, List.getElem?_eq_getElem hi']; rfl
    dsimp only at hu ha
    rw [e] at hu ha
    have := (hsl _ (List.getElem_mem hi')).2.2 hu
    omega
  · have hi' : i < m.objs.length := by simp at hi; omega
    have e : ob ⟨m.types, m.objs ++ [newO m t], m.slots.set k ⟨g0 + 1, true, m.objs.length⟩⟩ i = m.objs[i] := by
      simp [ob, List.getD_eq_getElem?_getD, List.getElem?_append_left hi', List.getElem?_eq_getElem hi']
    rw [e] at hj hr
    have := ((hobs _ (List.getElem_mem hi')).2.2 j hj).2 hr.1
    have h2 := hr.2
    omega
theorem Alld.asked : asked (allM m t) k (g0 + 1) = 0 := by rw [L20.asked, if_pos h.ok, h.right]
theorem Alld.free : freeE (allM m t) k (g0 + 1) = 0 := by rw [freeE, if_pos h.asked, h.own, if_neg h.idle]
theorem Alld.freed : freeM (allM m t) k (g0 + 1) = ⟨m.types, m.objs, m.slots.set k ⟨g0 + 1, false, 0⟩⟩ := by
  obtain ⟨h8, h960, h16, hty, hobs, hsl⟩ := chk_ok h.hc
  have hn := h.hn
  rw [freeM, if_pos h.free, h.own, h.hM, Int.toNat_natCast]
  dsimp only
  congr 1
  · rw [List.map_append, List.eraseIdx_append_of_length_le (by simp)]
    simp only [List.length_map, Nat.sub_self, List.map_cons, List.map_nil, List.eraseIdx_cons_zero, List.append_nil]
    conv => rhs; rw [← List.map_id m.objs]
    refine List.map_congr_left fun o ho => ?_
    obtain ⟨a1, a2, a3⟩ := hobs o ho
    rw [lowO, id]
    obtain ⟨oty, ofs⟩ := o
    congr 1
    apply List.ext_getElem?
    intro i
    rcases Nat.lt_or_ge i ofs.length with hi | hi
    · have h3 := (a3 i hi).2
      rw [List.getElem?_map, List.getElem?_range hi, Option.map_some, List.getElem?_eq_getElem hi]
      congr 1
      have hg : ofs.getD i 0 = ofs[i] := by rw [List.getD_eq_getElem?_getD, List.getElem?_eq_getElem hi]; rfl
      rw [lowV, if_neg, hg]
      rintro ⟨c1, c2⟩
      have := h3 c1
      omega
    · rw [List.getElem?_eq_none (by simpa using hi), List.getElem?_eq_none hi]
  · rw [List.set_set]
    conv => rhs; rw [← List.map_id (m.slots.set k ⟨g0 + 1, false, 0⟩)]
    refine List.map_congr_left fun s hs => ?_
    rw [lowS, id]
    rcases List.mem_or_eq_of_mem_set hs with hs | hs
    · split
      · rename_i hu
        have := (hsl s hs).2.2 hu
        obtain ⟨sg, su, sa⟩ := s
        dsimp only at hu this ⊢
        subst hu
        rw [lowA, if_neg (by omega)]
      · rfl
    · subst hs; rfl
end
end Go.Proofs.Ytodbbacmdjcheaa.L20
namespace Go.Proofs.Ytodbbacmdjcheaa.L20
open L02 L13 L18
theorem ob_putF {m : Mo} {n i : Nat} {v : UInt64} (hn : n < m.objs.length) : ob (putF m n i v) n = ⟨(ob m n).ty, (ob m n).fs.set i v⟩ := by
  rw [ob, putF, List.getD_eq_getElem?_getD, List.getElem?_set_self hn]; rfl
theorem len_putF {m : Mo} {n i : Nat} {v : UInt64} : (putF m n i v).objs.length = m.objs.length := by simp [putF]
theorem chk_putF {m : Mo} {n i : Nat} {v : UInt64} (hc : chk m = 0) (hn : n < m.objs.length) (hv : i < (ob m n).fs.length → FdOk m.objs.length ((ty m.types (ob m n)).getD i 0) v) : chk (putF m n i v) = 0 := by
  obtain ⟨h8, h960, h16, hty, hobs, hsl⟩ := chk_ok hc
  refine chk_zero (by rw [len_putF]; simp only [putF]; omega) ⟨h16, hty, fun o ho => ?_, fun s hs => ?_⟩
  · rw [len_putF]
    show ObOk m.types m.objs.length o
    rcases List.mem_or_eq_of_mem_set ho with ho | ho
    · exact hobs o ho
    · have hob : ob m n ∈ m.objs := by rw [ob, List.getD_eq_getElem?_getD, List.getElem?_eq_getElem hn]; exact List.getElem_mem hn
      obtain ⟨a1, a2, a3⟩ := hobs _ hob
      subst ho
      refine ⟨a1, by rw [List.length_set]; exact a2, fun j hj => ?_⟩
      have hj' : j < (ob m n).fs.length := by simpa using hj
      show FdOk m.objs.length ((ty m.types (ob m n)).getD j 0) (((ob m n).fs.set i v).getD j 0)
      by_cases hij : i = j
      · subst hij
        rw [show ((ob m n).fs.set i v).getD i 0 = v by rw [List.getD_eq_getElem?_getD, List.getElem?_set_self hj']; rfl]
        exact hv hj'
      · rw [show ((ob m n).fs.set i v).getD j 0 = (ob m n).fs.getD j 0 by rw [List.getD_eq_getElem?_getD, List.getElem?_set_ne hij, ← List.getD_eq_getElem?_getD]]
        exact a3 j hj'
  · rw [len_putF]; exact hsl s hs
theorem asked_putF {m : Mo} {n i : Nat} {v : UInt64} {sl g : Int} (hc : chk m = 0) (hp : chk (putF m n i v) = 0) : asked (putF m n i v) sl g = asked m sl g := by
  rw [asked, asked, if_pos hc, if_pos hp]; rfl
theorem own_putF {m : Mo} {n i : Nat} {v : UInt64} {sl : Int} : own (putF m n i v) sl = own m sl := rfl
theorem kinds_putF {m : Mo} {n i : Nat} {v : UInt64} {sl : Int} (hn : n < m.objs.length) (ho : own m sl = n) : kinds (putF m n i v) sl = kinds m sl := by
  rw [kinds, kinds, own_putF, ho, ob_putF hn]; rfl
end Go.Proofs.Ytodbbacmdjcheaa.L20
namespace Go.Proofs.Ytodbbacmdjcheaa.L20
open L02 L13 L18
/-- a field of the object of a right handle of a valid model -/
structure Ed (m : Mo) (k n i : Nat) (sg : Int) (o : Ob) (t : List UInt8) (kd : UInt8) (x0 : UInt64) : Prop where
  hc : chk m = 0
  hr : rightErr m.slots k sg = 0
  hs : m.slots[k]? = some ⟨sg, true, n⟩
  hn : n < m.objs.length
  ho : m.objs[n]? = some o
  hob : ob m n = o
  hi : i < o.fs.length
  hx : o.fs[i]? = some x0
  hown : own m k = n
  hty : 0 ≤ o.ty ∧ o.ty < m.types.length
  ht : m.types[o.ty.toNat]? = some t
  hk : t[i]? = some kd
  htl : t.length = o.fs.length
  htt : ty m.types o = t
  hE : kErrF m k sg i = 0
  hkd : kind m k sg i = kd
  hfd : FdOk m.objs.length kd x0
theorem Ed.of {m : Mo} {k n i : Nat} {sg : Int} {s : Sl} {o : Ob} {t : List UInt8} (hc : chk m = 0) (hr : rightErr m.slots k sg = 0) (hs : m.slots[k]? = some s) (hu : s.used = true) (hg : s.gen = sg) (hat : s.at_ = n) (ho : m.objs[n]? = some o) (hob : ob m n = o) (hoo : ObOk m.types m.objs.length o)
    (hown : own m k = n) (ht : m.types[o.ty.toNat]? = some t) (htt : ty m.types o = t) (hkinds : kinds m k = t) (hfl : o.fs.length = t.length) (hi : i < o.fs.length) : ∃ kd x0, Ed m k n i sg o t kd x0 := by
  obtain ⟨g, u, a⟩ := s
  dsimp only at hu hg hat
  subst hu; subst hg; subst hat
  have ha : asked m k g = 0 := by rw [asked, if_pos hc, hr]
  have hk : t[i]? = some t[i] := List.getElem?_eq_getElem (by omega)
  have hx : o.fs[i]? = some o.fs[i] := List.getElem?_eq_getElem hi
  have hE : kErrF m k g i = 0 := by rw [kErrF, if_pos ha, if_pos (by rw [hkinds]; omega)]
  have hf := hoo.2.2 i hi
  rw [htt, List.getD_eq_getElem?_getD, hk, List.getD_eq_getElem?_getD, hx] at hf
  exact ⟨t[i], o.fs[i], hc, hr, hs, (List.getElem?_eq_some_iff.1 ho).1, ho, hob, hi, hx, hown, hoo.1, ht, hk, hfl.symm, htt, hE, by rw [kind, if_pos hE, hkinds, Int.toNat_natCast, List.getD_eq_getElem?_getD, hk]; rfl, hf⟩
theorem setV_ok {N : Nat} {kd : UInt8} {v : UInt64} (h : kd.toNat ≠ 3) : FdOk N kd (setV kd v) := by
  refine ⟨fun h2 => ?_, fun h3 => absurd h3 h⟩
  unfold setV
  split
  · exact .inl rfl
  · rename_i h4
    exact Decidable.not_not.1 fun h5 => h4 ⟨h2, h5⟩
section
variable {m : Mo} {k n i : Nat} {sg : Int} {o : Ob} {t : List UInt8} {kd : UInt8} {x0 : UInt64} (h : Ed m k n i sg o t kd x0)
include h
theorem Ed.chk {v : UInt64} (hv : FdOk m.objs.length kd v) : L20.chk (putF m n i v) = 0 := by
  refine chk_putF h.hc h.hn fun _ => ?_
  rw [h.hob, h.htt, List.getD_eq_getElem?_getD, h.hk]; exact hv
/-- the field of an edited model -/
theorem Ed.put {v : UInt64} (hv : FdOk m.objs.length kd v) : Ed (putF m n i v) k n i sg ⟨o.ty, o.fs.set i v⟩ t kd v := by
  have hp := h.chk hv
  have hob : ob (putF m n i v) n = ⟨o.ty, o.fs.set i v⟩ := by rw [ob_putF h.hn, h.hob]
  have hki : kinds (putF m n i v) k = kinds m k := kinds_putF h.hn h.hown
  have hE : kErrF (putF m n i v) k sg i = kErrF m k sg i := by unfold kErrF; rw [asked_putF h.hc hp, hki]
  refine ⟨hp, h.hr, h.hs, by rw [len_putF]; exact h.hn, ?_, hob, by simpa using h.hi, List.getElem?_set_self h.hi, h.hown, h.hty, h.ht, h.hk, by simpa using h.htl, h.htt, hE.trans h.hE, ?_, by rw [len_putF]; exact hv⟩
  · show (m.objs.set n _)[n]? = _
    rw [List.getElem?_set_self h.hn, h.hob]
  · unfold kind; rw [hE, hki]; exact h.hkd
theorem Ed.fld : fld m k i = x0 := by rw [L20.fld, h.hown, h.hob, Int.toNat_natCast, List.getD_eq_getElem?_getD, h.hx]; rfl
theorem Ed.get (h3 : kd.toNat ≠ 3) : getE m k sg i = 0 ∧ getV m k sg i = x0 := by
  have e : getE m k sg i = 0 := by rw [getE, if_pos h.hE, h.hkd, if_neg h3]
  exact ⟨e, by rw [getV, if_pos e, h.fld]⟩
theorem Ed.put_eq {v : UInt64} : L20.put m k i v = putF m n i v := by rw [L20.put, h.hown, Int.toNat_natCast]
theorem Ed.set {v : UInt64} (h3 : kd.toNat ≠ 3) : setM m k sg i v = putF m n i (setV kd v) := by rw [setM, if_pos (h.get h3).1, h.hkd, h.put_eq]
theorem Ed.ref (tq : Int × Int) (h3 : kd.toNat = 3) : refE m k sg i (some tq) = rightErr m.slots tq.1 tq.2 := by unfold refE; rw [if_pos h.hE, h.hkd, if_pos h3]
end
end Go.Proofs.Ytodbbacmdjcheaa.L20
namespace Go.Proofs.Ytodbbacmdjcheaa.L19
open L02 L07 L13 L14 L15 L16 L18 L20
/-- an image with a change made -/
def put1 (l : List UInt64) (e : Int × UInt64) : List UInt64 := if 0 ≤ e.1 ∧ e.1 < l.length then l.set e.1.toNat e.2 else l
def made (l : List UInt64) (E : List (Int × UInt64)) : List UInt64 := (E.take 100).foldl put1 l
theorem put1_len (l : List UInt64) (e : Int × UInt64) : (put1 l e).length = l.length := by
  unfold put1; split
  · rw [List.length_set]
  · rfl
theorem put1_set {l : List UInt64} {p : Nat} {y : UInt64} (h : p < l.length) : put1 l ((p : Int), y) = l.set p y := by
  unfold put1
  rw [if_pos ⟨by show (0 : Int) ≤ (p : Int); omega, by show (p : Int) < _; omega⟩, Int.toNat_natCast]
theorem made_one {l : List UInt64} {p : Nat} {y : UInt64} (h : p < l.length) : made l [((p : Int), y)] = l.set p y := put1_set h
theorem set_back {l : List UInt64} {p : Nat} {x y : UInt64} (h : l[p]? = some x) : (l.set p y).set p x = l := by
  rw [List.set_set]
  apply List.ext_getElem?
  intro i
  by_cases hi : i = p
  · subst hi
    rw [List.getElem?_set_self (List.getElem?_eq_some_iff.1 h).1, h]
  · rw [List.getElem?_set_ne (fun e => hi e.symm)]
section
variable {l : List UInt64} {k a nn q i : Nat} {sg : Int} {b : Hb} {t : List UInt8} {kd : UInt8} {x : UInt64}
theorem Hd.mk2 (rt : Rt l) (hk : k < 16) (hs : (slots l)[k]? = some ⟨sg, true, a⟩) (ho : (O19 l)[nn]? = some b) (hat : b.at_ = a) : ∃ q t, Hd l k a nn q sg b t := by
  have hr : resErr l k sg = 0 := by
    rw [(resErr_at rt.sl hs sg).1]; simp
  have ha : askI l k sg = 0 := by rw [askI, if_pos rt.chk, hr]
  obtain ⟨k', a', nn', q, b', t, e, h⟩ := Hd.of ha
  have : k' = k := by omega
  subst this
  have h1 := h.hs
  rw [hs] at h1
  injection h1 with h1
  injection h1 with _ _ h1
  have : a' = a := by omega
  subst this
  have hb : b' = b := objs_inj rt.al (List.mem_of_getElem? h.ho) (List.mem_of_getElem? ho) (by rw [h.hat, hat])
  subst hb
  have hn := objs_idx rt.al h.ho ho
  subst hn
  exact ⟨q, t, h⟩
theorem Fd.mk2 (h : Hd l k a nn q sg b t) (hi : i < t.length) : ∃ kd x, Fd l k a nn q i sg b t kd x := by
  have hE : kiErr l k sg i = 0 := by rw [kiErr, if_pos h.hask, h.kinds, if_pos ⟨by omega, by omega⟩]
  obtain ⟨k', a', nn', q', i', b', t', kd, x, e1, e2, f⟩ := Fd.of hE
  have : k' = k := by omega
  subst this
  have : i' = i := by omega
  subst this
  have h1 := f.hd.hs
  rw [h.hs] at h1
  injection h1 with h1
  injection h1 with _ _ h1
  have : a' = a := by omega
  subst this
  have hb : b' = b := objs_inj h.rt.al (List.mem_of_getElem? f.hd.ho) (List.mem_of_getElem? h.ho) (by rw [f.hd.hat, h.hat])
  subst hb
  have hn := objs_idx h.rt.al f.hd.ho h.ho
  subst hn
  have hq : q' = q := by have := f.hd.hty; have := h.hty; omega
  subst hq
  have ht : t' = t := by have h1 := f.hd.hT; have h2 := h.hT; rw [h1] at h2; injection h2
  subst ht
  exact ⟨kd, x, f⟩
theorem Fd.lt (f : Fd l k a nn q i sg b t kd x) : a + 2 + i < l.length := (List.getElem?_eq_some_iff.1 f.hx).1
theorem Fd.fdr (f : Fd l k a nn q i sg b t kd x) : FdR (O19 l) kd x := by
  refine ⟨fun h2 => ?_, f.ref⟩
  have hb := List.mem_of_getElem? f.hd.ho
  have := f.hd.rt.good 10 (by omega) (by omega) b hb i (by rw [f.hd.hkB]; exact f.hi) (by rw [f.hd.hkB, List.getD_eq_getElem?_getD, f.hkd]; exact h2)
  have hf : fw l b i = x := by unfold fw; rw [f.hd.hat, Int.toNat_natCast, List.getD_eq_getElem?_getD, f.hx]; rfl
  rw [hf] at this; exact this
/-- another field -/
theorem Fd.put (f : Fd l k a nn q i sg b t kd x) {y : UInt64} (hy : FdR (O19 l) kd y) :
    Fd (l.set (a + 2 + i) y) k a nn q i sg b t kd y ∧ seen (l.set (a + 2 + i) y) = putF (seen l) nn i (fldV (O19 l) kd y) ∧ O19 (l.set (a + 2 + i) y) = O19 l ∧ slots (l.set (a + 2 + i) y) = slots l ∧ T19 (l.set (a + 2 + i) y) = T19 l := by
  have rt := f.hd.rt
  have hbm := List.mem_of_getElem? f.hd.ho
  have hik : i < (kindsB (T19 l) b).length := by rw [f.hd.hkB]; exact f.hi
  have hkk : (kindsB (T19 l) b).getD i 0 = kd := by rw [f.hd.hkB, List.getD_eq_getElem?_getD, f.hkd]; rfl
  have hp : a + 2 + i = b.at_.toNat + 2 + i := by rw [f.hd.hat, Int.toNat_natCast]
  obtain ⟨rt', hsn⟩ := seen_put rt f.hd.ho hik hkk hp hy
  have fs := rt.fs hbm y hik hp
  have eO : O19 (l.set (a + 2 + i) y) = O19 l := by unfold O19; rw [fs.alL]
  obtain ⟨q', t', h'⟩ := Hd.mk2 (k := k) (sg := sg) (a := a) rt' f.hd.hk (by rw [fs.slL]; exact f.hd.hs) (by rw [eO]; exact f.hd.ho) f.hd.hat
  have hq : q' = q := by have := h'.hty; have := f.hd.hty; omega
  subst hq
  have ht : t' = t := by have h1 := h'.hT; have h2 := f.hd.hT; rw [fs.tyT, h2] at h1; injection h1 with h1; exact h1.symm
  subst ht
  obtain ⟨kd', x', f'⟩ := Fd.mk2 h' f.hi
  have hkd : kd' = kd := by have h1 := f'.hkd; rw [f.hkd] at h1; injection h1 with h1; exact h1.symm
  have hx : x' = y := by have h1 := f'.hx; rw [List.getElem?_set_self f.lt] at h1; injection h1 with h1; exact h1.symm
  subst hkd; subst hx
  exact ⟨f', hsn, eO, fs.slL, fs.tyT⟩
theorem Fd.gE (f : Fd l k a nn q i sg b t kd x) : giE l k sg i = if kd.toNat = 3 then 42 else 0 := by rw [giE, if_pos f.hE, f.hK]
theorem Fd.sL (f : Fd l k a nn q i sg b t kd x) (h3 : kd.toNat ≠ 3) (v : UInt64) : siL l k sg i v = [(((a + 2 + i : Nat) : Int), setV kd v)] := by rw [siL, f.gE, if_neg h3, if_pos rfl, f.hAt, f.hK]
theorem setV_fdr {O : List Hb} (h3 : kd.toNat ≠ 3) (v : UInt64) : FdR O kd (setV kd v) := ⟨(setV_ok (N := 0) h3).1, fun h => absurd h h3⟩
theorem setV_same {O : List Hb} (h : FdR O kd x) : setV kd x = x := by
  unfold setV
  rw [if_neg (fun e => e.2 (h.1 e.1))]
/-- what is written last counts -/
theorem Fd.last (f : Fd l k a nn q i sg b t kd x) (h3 : kd.toNat ≠ 3) (v : UInt64) :
    Fd (made l (siL l k sg i v)) k a nn q i sg b t kd (setV kd v) ∧ (∀ u, made (made l (siL l k sg i v)) (siL (made l (siL l k sg i v)) k sg i u) = made l (siL l k sg i u)) ∧ made (made l (siL l k sg i v)) (siL (made l (siL l k sg i v)) k sg i x) = l ∧ made l (siL l k sg i x) = l := by
  have e1 : made l (siL l k sg i v) = l.set (a + 2 + i) (setV kd v) := by rw [f.sL h3, made_one f.lt]
  obtain ⟨f', _⟩ := f.put (setV_fdr h3 v)
  rw [e1]
  refine ⟨f', fun u => ?_, ?_, ?_⟩
  · rw [f'.sL h3, made_one f'.lt, f.sL h3, made_one f.lt, List.set_set]
  · rw [f'.sL h3, made_one f'.lt, setV_same f.fdr, set_back f.hx]
  · rw [f.sL h3, made_one f.lt, setV_same f.fdr]
    have := set_back (y := x) f.hx
    rw [List.set_set] at this; exact this
end
theorem slOf_ug (O : List Hb) (s : Sl) : (slOf O s).used = s.used ∧ (slOf O s).gen = s.gen := by
  unfold slOf
  by_cases hu : s.used = true
  · rw [if_pos hu, hu]; exact ⟨rfl, rfl⟩
  · rw [if_neg hu]; exact ⟨rfl, rfl⟩
/-- what the model asks is what the image asks -/
theorem right_map {S : List Sl} {O : List Hb} (sl g : Int) : rightErr (S.map (slOf O)) sl g = rightErr S sl g := by
  unfold rightErr
  rw [List.length_map]
  by_cases h : 0 ≤ sl ∧ sl < S.length
  · rw [if_pos h, if_pos h]
    have hk : sl.toNat < S.length := by omega
    rw [List.getD_eq_getElem?_getD, List.getElem?_map, List.getD_eq_getElem?_getD, List.getElem?_eq_getElem hk]
    simp only [Option.map_some, Option.getD_some]
    simp only [(slOf_ug O _).1, (slOf_ug O _).2]
  · rw [if_neg h, if_neg h]
theorem next_map {O : List Hb} : ∀ (S : List Sl) (j : Nat), nextFrom (S.map (slOf O)) j = nextFrom S j
  | [], j => rfl
  | s :: S, j => by
    rw [List.map_cons, nextFrom, nextFrom, next_map S]
    rw [(slOf_ug O s).1, (slOf_ug O s).2]
section
variable {l : List UInt64}
theorem asked_seen (h : Rt l) (sl g : Int) : asked (seen l) sl g = askI l sl g := by
  rw [asked, if_pos (seen_chk h), askI, if_pos h.chk, resErr, if_pos h.sl]
  exact right_map sl g
end
section
variable {l : List UInt64} {k a nn q i : Nat} {sg : Int} {b : Hb} {t : List UInt8} {kd : UInt8} {x : UInt64}
theorem Fd.fld (f : Fd l k a nn q i sg b t kd x) : fld (seen l) k i = fldV (O19 l) kd x := by
  unfold L20.fld
  rw [f.hd.own, f.hd.ob, Int.toNat_natCast]
  show (obFs l (T19 l) (O19 l) b).getD i 0 = _
  have hik : i < (kindsB (T19 l) b).length := by rw [f.hd.hkB]; exact f.hi
  have hkk : (kindsB (T19 l) b).getD i 0 = kd := by rw [f.hd.hkB, List.getD_eq_getElem?_getD, f.hkd]; rfl
  have hf : fw l b i = x := by unfold fw; rw [f.hd.hat, Int.toNat_natCast, List.getD_eq_getElem?_getD, f.hx]; rfl
  rw [List.getD_eq_getElem?_getD, obFs_get hik, hkk, hf]; rfl
end
end Go.Proofs.Ytodbbacmdjcheaa.L19
namespace Go.Proofs.Ytodbbacmdjcheaa.L19
open L02 L07 L13 L14 L15 L16 L18 L20
/-- the change that drops a handle -/
def diL (l : List UInt64) (sl g : Int) : List (Int × UInt64) := if askI l sl g = 0 then [(dropAt l sl g, dropVal l sl g)] else []
/-- the error and the change that free an object -/
def fiE (l : List UInt64) (sl g : Int) : Int := if askI l sl g = 0 then (if Busy (seen l) sl (own (seen l) sl) then 45 else 0) else askI l sl g
def fiB (l : List UInt64) (sl g : Int) : Hb := around l (res l sl g)
def fiL (l : List UInt64) (sl g : Int) : List (Int × UInt64) := if fiE l sl g = 0 then [(dropAt l sl g, dropVal l sl g), ((fiB l sl g).at_, L14.word (fiB l sl g))] else []
theorem freeE_seen {l : List UInt64} (h : Rt l) (sl g : Int) : freeE (seen l) sl g = fiE l sl g := by
  unfold freeE fiE; rw [asked_seen h]
/-- the image behind a dropped handle -/
theorem Hd.drop {l : List UInt64} {k a nn q : Nat} {sg : Int} {b : Hb} {t : List UInt8} (h : Hd l k a nn q sg b t) :
    diL l k sg = [(((112 + k : Nat) : Int), pk ⟨sg, false, 0⟩)] ∧ made l (diL l k sg) = l.set (112 + k) (pk ⟨sg, false, 0⟩) ∧ Rt (made l (diL l k sg)) ∧ seen (made l (diL l k sg)) = dropM (seen l) k sg ∧
      O19 (made l (diL l k sg)) = O19 l ∧ T19 (made l (diL l k sg)) = T19 l ∧ allL (made l (diL l k sg)) = allL l ∧ slots (made l (diL l k sg)) = (slots l).set k ⟨sg, false, 0⟩ := by
  have hr := seen_slot h.rt (List.mem_of_getElem? h.hs)
  have hr0 : Right ⟨sg, false, 0⟩ := ⟨hr.1, hr.2.1, fun _ => rfl, fun e => by cases e⟩
  have e1 : diL l k sg = [(((112 + k : Nat) : Int), pk ⟨sg, false, 0⟩)] := by
    unfold diL; rw [if_pos h.hask, dropAt, dropVal, if_pos h.hr, if_pos h.hr]
    congr 2
  have e2 : made l (diL l k sg) = l.set (112 + k) (pk ⟨sg, false, 0⟩) := by rw [e1, made_one (by have := h.rt.sz.1; have := h.hk; omega)]
  obtain ⟨r1, r2, r3, r4, r5⟩ := seen_slot_set h.rt h.hk hr0 (fun e => by cases e)
  rw [e2]
  refine ⟨e1, rfl, r1, ?_, r3, r4, r5, ?_⟩
  · rw [r2, dropM, if_pos (by rw [asked_seen h.rt]; exact h.hask), Int.toNat_natCast]
    rfl
  · rw [slots_set _ h.hk, spl_pk hr0]
/-- what is busy, by the image alone -/
theorem Hd.busy {l : List UInt64} {k a nn q : Nat} {sg : Int} {b : Hb} {t : List UInt8} (h : Hd l k a nn q sg b t) :
    Busy (seen l) k (L20.own (seen l) k) ↔ (∃ i s, i ≠ k ∧ (slots l)[i]? = some s ∧ s.used = true ∧ s.at_ = a) ∨ ∃ c ∈ O19 l, c.at_ ≠ a ∧ ∃ j, j < (kindsB (T19 l) c).length ∧ ((kindsB (T19 l) c).getD j 0).toNat = 3 ∧ ((fw l c j).toNat : Int) = a := by
  have hOl := objs_len h.rt.al
  have hii : idx (O19 l) (a : Int) = some nn := by rw [← h.hat]; exact idx_at h.rt.al h.ho
  unfold Busy
  rw [h.own]
  refine or_congr ?_ ?_
  · constructor
    · rintro ⟨i, h1, h2, h3, h4⟩
      have h1' : i < (slots l).length := by have h9 : i < ((slots l).map (slOf (O19 l))).length := h1; rwa [List.length_map] at h9
      have hs : (slots l)[i]? = some (slots l)[i] := List.getElem?_eq_getElem h1'
      have hg : (seen l).slots.getD i .none = slOf (O19 l) (slots l)[i] := by
        show ((slots l).map (slOf (O19 l))).getD i .none = _
        rw [List.getD_eq_getElem?_getD, List.getElem?_map, hs]; rfl
      rw [hg] at h3 h4
      rw [(slOf_ug _ _).1] at h3
      refine ⟨i, _, by omega, hs, h3, ?_⟩
      obtain ⟨j, c, j1, j2, j3, _⟩ := idx_of (h.rt.slots _ (List.mem_of_getElem? hs) h3)
      unfold slOf at h4
      rw [if_pos h3, j1] at h4
      have : j = nn := by have : (j : Int) = nn := h4; omega
      subst this
      exact idx_inj j1 hii
    · rintro ⟨i, s, h1, hs, h3, h4⟩
      have hg : (seen l).slots.getD i .none = slOf (O19 l) s := by
        show ((slots l).map (slOf (O19 l))).getD i .none = _
        rw [List.getD_eq_getElem?_getD, List.getElem?_map, hs]; rfl
      refine ⟨i, ?_, by omega, ?_, ?_⟩
      · show i < ((slots l).map (slOf (O19 l))).length
        rw [List.length_map]; exact (List.getElem?_eq_some_iff.1 hs).1
      · rw [hg, (slOf_ug _ _).1, h3]
      · rw [hg]; unfold slOf; rw [if_pos h3, h4, hii]
  · have hobj : ∀ i, i < (O19 l).length → ∃ c, (O19 l)[i]? = some c ∧ L20.ob (seen l) i = obOf l (T19 l) (O19 l) c := fun i hi => by
      have hc : (O19 l)[i]? = some (O19 l)[i] := List.getElem?_eq_getElem hi
      refine ⟨_, hc, ?_⟩
      unfold L20.ob
      show ((O19 l).map _).getD i _ = _
      rw [List.getD_eq_getElem?_getD, List.getElem?_map, hc]; rfl
    have key : ∀ c ∈ O19 l, ∀ j, j < (kindsB (T19 l) c).length → (isRef (seen l) (obOf l (T19 l) (O19 l) c) j nn ↔ ((kindsB (T19 l) c).getD j 0).toNat = 3 ∧ ((fw l c j).toNat : Int) = a) := fun c hc j hj => by
      unfold isRef
      show ((kindsB (T19 l) c).getD j 0).toNat = 3 ∧ ((obFs l (T19 l) (O19 l) c).getD j 0).toNat = nn + 1 ↔ _
      rw [List.getD_eq_getElem?_getD (l := obFs l (T19 l) (O19 l) c), obFs_get hj]
      refine and_congr_right fun h3 => ?_
      show (fldV (O19 l) _ (fw l c j)).toNat = nn + 1 ↔ _
      rw [fldV_ref h3]
      have h11 : fw l c j = 0 ∨ IsObj (O19 l) (fw l c j).toNat := h.rt.good 11 (by omega) (by omega) c hc j hj h3
      rcases h11 with h0 | h0
      · rw [h0, refV_none (no_zero h.rt.al (objs_low h.rt.al))]
        have := h.ha1
        constructor <;> intro e <;> simp at e <;> omega
      · obtain ⟨x, y, j1, j2, j3, j4⟩ := idx_of h0
        rw [refV_some j1, UInt64.toNat_ofNat', Nat.mod_eq_of_lt (by omega)]
        constructor
        · intro e
          have : x = nn := by omega
          subst this
          exact idx_inj j1 hii
        · intro e
          rw [e, hii] at j1; injection j1 with j1; omega
    constructor
    · rintro ⟨i, h1, h2, j, h3, h4⟩
      have h1' : i < (O19 l).length := by have h9 : i < ((O19 l).map (obOf l (T19 l) (O19 l))).length := h1; rwa [List.length_map] at h9
      obtain ⟨c, hc, ho⟩ := hobj i h1'
      rw [ho] at h3 h4
      have h3' : j < (kindsB (T19 l) c).length := by rw [← obFs_len l (T19 l) (O19 l) c]; exact h3
      have := (key c (List.mem_of_getElem? hc) j h3').1 h4
      refine ⟨c, List.mem_of_getElem? hc, fun e => h2 ?_, j, h3', this⟩
      have hcb := objs_inj h.rt.al (List.mem_of_getElem? hc) (List.mem_of_getElem? h.ho) (by rw [e, h.hat])
      subst hcb
      exact objs_idx h.rt.al hc h.ho
    · rintro ⟨c, hc, h2, j, h3, h4⟩
      obtain ⟨i, hi⟩ := List.getElem?_of_mem hc
      have h1 := (List.getElem?_eq_some_iff.1 hi).1
      obtain ⟨c', hc', ho⟩ := hobj i h1
      have : c' = c := by rw [hi] at hc'; injection hc' with e; exact e.symm
      subst this
      refine ⟨i, ?_, fun e => h2 ?_, j, ?_, ?_⟩
      · show i < ((O19 l).map _).length
        rw [List.length_map]; exact h1
      · subst e; rw [h.ho] at hi; injection hi with hi; rw [← hi, h.hat]
      · rw [ho]; show j < (obFs l (T19 l) (O19 l) c').length; rw [obFs_len]; exact h3
      · rw [ho]; exact (key c' hc j h3).2 h4
/-- the index of an object among all blocks -/
theorem Hd.block {l : List UInt64} {k a nn q : Nat} {sg : Int} {b : Hb} {t : List UInt8} (h : Hd l k a nn q sg b t) : ∃ i, objIdx (allL l) a 0 = some i ∧ (allL l)[i]? = some b ∧ arErr l a = 0 ∧ around l a = becomes (allL l) i := by
  obtain ⟨hbL, hbk⟩ := objs_mem.1 (List.mem_of_getElem? h.ho)
  cases h1 : objIdx (allL l) (a : Int) 0 with
  | none => exact absurd ⟨h.hat, hbk⟩ (objIdx_none.1 h1 b hbL)
  | some i =>
    obtain ⟨_, c, h2, h3, h4⟩ := objIdx_some h1
    rw [Nat.sub_zero] at h2
    have hc : c = b := objs_inj h.rt.al (objs_mem.2 ⟨List.mem_of_getElem? h2, h4⟩) (List.mem_of_getElem? h.ho) (by rw [h3, h.hat])
    subst hc
    have he : arErr l a = 0 := by unfold arErr; rw [if_pos h.rt.al, h1]; rfl
    exact ⟨i, rfl, h2, he, by unfold around; rw [if_pos he, h1]; rfl⟩
/-- an object freed -/
theorem Hd.free {l : List UInt64} {k a nn q : Nat} {sg : Int} {b : Hb} {t : List UInt8} (h : Hd l k a nn q sg b t) (h0 : fiE l k sg = 0) :
    ∃ (i : Nat) (m : Hb) (p : Nat), (allL l)[i]? = some b ∧ m = becomes (allL l) i ∧ fiB l k sg = m ∧ m.at_ = p ∧ 128 ≤ p ∧ BkOk m ∧ m.at_ + m.size ≤ l.length ∧ fiL l k sg = [(((112 + k : Nat) : Int), pk ⟨sg, false, 0⟩), ((p : Int), L14.word m)] ∧
      made l (fiL l k sg) = (l.set (112 + k) (pk ⟨sg, false, 0⟩)).set p (L14.word m) ∧ Rt (made l (fiL l k sg)) ∧ seen (made l (fiL l k sg)) = freeM (seen l) k sg ∧ slots (made l (fiL l k sg)) = (slots l).set k ⟨sg, false, 0⟩ ∧ T19 (made l (fiL l k sg)) = T19 l ∧
      (∃ P M S, allL l = P ++ (M ++ S) ∧ b ∈ M ∧ (∀ c ∈ M, c ≠ b → c.kind = 2) ∧ allL (made l (fiL l k sg)) = P ++ ([{ m with next := (made l (fiL l k sg)).getD (p + 1) 0 }] ++ S)) := by
  obtain ⟨d1, d2, d3, d4, d5, d6, d7, d8⟩ := h.drop
  obtain ⟨i, i1, i2, i3, i4⟩ := h.block
  rw [d2] at d3 d4 d5 d6 d7 d8
  have hnb : ¬ Busy (seen l) k (L20.own (seen l) k) := fun hb => by
    unfold fiE at h0; rw [if_pos h.hask, if_pos hb] at h0; omega
  rw [h.busy] at hnb
  obtain ⟨hn1, hn2⟩ := not_or.1 hnb
  obtain ⟨l1, hl1⟩ : ∃ l1, l1 = l.set (112 + k) (pk ⟨sg, false, 0⟩) := ⟨_, rfl⟩
  rw [← hl1] at d3 d4 d5 d6 d7 d8 d2
  have hlen : l1.length = l.length := by rw [hl1, List.length_set]
  have hbk : b.kind = 1 := (objs_mem.1 (List.mem_of_getElem? h.ho)).2
  obtain ⟨m, hm⟩ : ∃ m, m = becomes (allL l) i := ⟨_, rfl⟩
  have hfw : ∀ c ∈ O19 l, ∀ j, fw l1 c j = fw l c j := fun c hc j => by
    have := objs_low h.rt.al c hc
    have := h.hk
    rw [hl1]; exact fw_set (by omega)
  obtain ⟨r1, r2, r3, r4, r5⟩ := seen_free d3 (n := nn) (i := i) (b := b) (by rw [d5]; exact h.ho) (by rw [d7]; exact i2) (fun s hs hu e => by
    rw [d8] at hs
    obtain ⟨j, hj⟩ := List.getElem?_of_mem hs
    by_cases hjk : j = k
    · subst hjk
      rw [List.getElem?_set_self (by rw [slots_len' h.rt.sl]; exact h.hk)] at hj
      injection hj with hj; subst hj; cases hu
    · rw [List.getElem?_set_ne (fun e => hjk e.symm)] at hj
      exact hn1 ⟨j, s, hjk, hj, hu, by rw [e, h.hat]⟩) (fun c hc hcb j hj h3 e => by
    rw [d5] at hc
    rw [d6] at hj h3
    rw [hfw c hc j] at e
    refine hn2 ⟨c, hc, fun e2 => hcb (objs_inj h.rt.al hc (List.mem_of_getElem? h.ho) (by rw [e2, h.hat])), j, hj, h3, by rw [e, h.hat]⟩) (m := m) (by rw [hm, d7])
  obtain ⟨P, lo, hi, S', p, q', hc, e1, e2, hok, _⟩ := merge_part h.rt.al i2 hbk
  rw [← hm] at e1 e2 hok
  have hpn : m.at_.toNat = p := by omega
  rw [hpn] at r1 r2 r3
  have hfB : fiB l k sg = m := by unfold fiB; rw [h.hres, i4, hm]
  have eL : fiL l k sg = [(((112 + k : Nat) : Int), pk ⟨sg, false, 0⟩), ((p : Int), L14.word m)] := by
    have : diL l k sg = [(dropAt l k sg, dropVal l k sg)] := by unfold diL; rw [if_pos h.hask]
    rw [d1] at this
    injection this with this _
    unfold fiL
    rw [if_pos h0, ← this, hfB, e1]
  have eM : made l (fiL l k sg) = l1.set p (L14.word m) := by
    rw [eL]
    unfold made
    have s1 : put1 l (((112 + k : Nat) : Int), pk ⟨sg, false, 0⟩) = l1 := by rw [put1_set (by have := h.rt.sz.1; have := h.hk; omega), hl1]
    show put1 (put1 l _) _ = _
    rw [s1, put1_set (by have hb := hok.bounds; omega)]
  rw [eM]
  have hf : Front l1 (l1.set p (L14.word m)) := front_set (by omega)
  refine ⟨i, m, p, i2, hm, hfB, e1, by omega, hok, by rw [← hlen]; exact r5, eL, by rw [hl1], r1, ?_, by rw [hf.open_.2, d8], by rw [hf.types, d6], ?_⟩
  · rw [r2, d4]
    have ha : asked (seen l) k sg = 0 := by rw [asked_seen h.rt]; exact h.hask
    have hE : freeE (seen l) k sg = 0 := by rw [freeE_seen h.rt]; exact h0
    rw [freeM, if_pos hE, dropM, if_pos ha, h.own]
    congr 2
  · obtain ⟨P, M, S, x1, x2, x3, x4⟩ := r3
    rw [d7] at x1
    exact ⟨P, M, S, x1, x2, x3, x4⟩
end Go.Proofs.Ytodbbacmdjcheaa.L19
namespace Go.Proofs.Ytodbbacmdjcheaa.L19
open L02 L05 L06 L07 L13 L14 L15 L16 L18 L20
theorem putW_eq : ∀ (m l : List UInt64) (a : Nat), a + m.length ≤ l.length → putW l a m = l.take a ++ (m ++ l.drop (a + m.length))
  | [], l, a, h => by simp [putW]
  | x :: xs, l, a, h => by
    rw [List.length_cons] at h
    rw [putW, putW_eq xs _ _ (by rw [List.length_set]; omega), List.length_cons]
    have h1 : (l.set a x).take (a + 1) = l.take a ++ [x] := by
      rw [List.take_add_one, List.take_set_of_le (Nat.le_refl a), List.getElem?_set_self (by omega)]; rfl
    have h2 : (l.set a x).drop (a + 1 + xs.length) = l.drop (a + 1 + xs.length) := by
      rw [List.drop_set_of_lt (by omega)]
    rw [h1, h2, List.append_assoc, List.cons_append, List.nil_append, show a + 1 + xs.length = a + (xs.length + 1) by omega]
    rfl
end Go.Proofs.Ytodbbacmdjcheaa.L19
namespace Go.Proofs.Ytodbbacmdjcheaa.L19
open L02 L07 L13 L14 L15 L16 L18 L20
/-- the words of an object of a type -/
def sizT (t : List UInt8) : Nat := 2 + (t.length + 1) / 2 * 2
def objH (p n q : Nat) : Hb := ⟨(p : Int), (n : Int), 1, (q : Int), false, 0⟩
def restH (p n c : Nat) : Hb := ⟨((p + n : Nat) : Int), ((c - n : Nat) : Int), 2, 0, false, 0⟩
/-- what an allocation writes from the extent's address on: the extent has c words, the object n -/
def newW (p n q c : Nat) : List UInt64 := L14.word (objH p n q) :: (List.replicate (n - 1) 0 ++ if c = n then [] else [L14.word (restH p n c)])
theorem newW_len {p n q c : Nat} (hn : 1 ≤ n) : (newW p n q c).length = n + if c = n then 0 else 1 := by
  unfold newW
  rw [List.length_cons, List.length_append, List.length_replicate]
  by_cases h : c = n
  · rw [if_pos h, if_pos h]; simp; omega
  · rw [if_neg h, if_neg h]; simp; omega
theorem putW_getD : ∀ (m l : List UInt64) (a i : Nat), a + m.length ≤ l.length → (putW l a m).getD i 0 = if a ≤ i ∧ i < a + m.length then m.getD (i - a) 0 else l.getD i 0
  | [], l, a, i, h => by rw [putW, if_neg (by rw [List.length_nil]; omega)]
  | x :: xs, l, a, i, h => by
    rw [List.length_cons] at h
    rw [putW, putW_getD xs _ _ _ (by rw [List.length_set]; omega), List.length_cons]
    by_cases h1 : a + 1 ≤ i ∧ i < a + 1 + xs.length
    · rw [if_pos h1, if_pos (by omega), show i - a = (i - (a + 1)) + 1 by omega, List.getD_cons_succ]
    · rw [if_neg h1]
      by_cases h2 : i = a
      · subst h2
        rw [getD_set_self (by omega), if_pos (by omega), Nat.sub_self]; rfl
      · rw [getD_set_ne (fun e => h2 e.symm), if_neg (by omega)]
theorem newW_get {l : List UInt64} {p n q c : Nat} (hn : 1 ≤ n) (hc : n ≤ c) (hl : p + c ≤ l.length) :
    (putW l p (newW p n q c)).getD p 0 = L14.word (objH p n q) ∧ (∀ i, p < i → i < p + n → (putW l p (newW p n q c)).getD i 0 = 0) ∧ (c ≠ n → (putW l p (newW p n q c)).getD (p + n) 0 = L14.word (restH p n c)) ∧
      ∀ i, i < p ∨ p + n < i ∨ (i = p + n ∧ c = n) → (putW l p (newW p n q c)).getD i 0 = l.getD i 0 := by
  have hlen := newW_len (p := p) (q := q) (c := c) hn
  have hle : p + (newW p n q c).length ≤ l.length := by rw [hlen]; split <;> omega
  refine ⟨?_, fun i h1 h2 => ?_, fun h1 => ?_, fun i h1 => ?_⟩
  · rw [putW_getD _ _ _ _ hle, if_pos ⟨Nat.le_refl _, by rw [hlen]; omega⟩, Nat.sub_self]; rfl
  · rw [putW_getD _ _ _ _ hle, if_pos ⟨by omega, by rw [hlen]; omega⟩]
    unfold newW
    rw [show i - p = (i - p - 1) + 1 by omega, List.getD_cons_succ, List.getD_eq_getElem?_getD, List.getElem?_append_left (by rw [List.length_replicate]; omega), List.getElem?_replicate, if_pos (by omega)]; rfl
  · rw [putW_getD _ _ _ _ hle, if_pos ⟨by omega, by rw [hlen, if_neg h1]; omega⟩]
    unfold newW
    rw [if_neg h1, show p + n - p = (n - 1) + 1 by omega, List.getD_cons_succ, List.getD_eq_getElem?_getD, List.getElem?_append_right (by rw [List.length_replicate]; omega), List.length_replicate, Nat.sub_self]; rfl
  · rw [putW_getD _ _ _ _ hle, if_neg]
    rw [hlen]
    rintro ⟨h2, h3⟩
    split at h3 <;> omega
theorem adj_obj {P S : List Hb} {b o : Hb} {R : List Hb} (hna : ¬ Adj (P ++ ([b] ++ S))) (hb : b.kind = 2) (ho : o.kind = 1) (hR : R = [] ∨ ∃ r, R = [r]) : ¬ Adj (P ++ (([o] ++ R) ++ S)) := by
  rw [adj_app, adj_app] at hna
  simp only [not_or] at hna
  obtain ⟨n1, ⟨-, n2, n3⟩, -⟩ := hna
  have hS : ¬ HeadF S := fun h => n3 ⟨⟨[], b, rfl, hb⟩, h⟩
  rw [adj_app, adj_app]
  rintro (h | (h | h | ⟨h1, h2⟩) | ⟨h1, h2⟩)
  · exact n1 h
  · rcases hR with rfl | ⟨r, rfl⟩
    · exact h
    · rcases h with h | h
      · omega
      · exact h
  · exact n2 h
  · exact hS h2
  · rw [List.append_assoc, List.cons_append, headF_cons] at h2
    omega
/-- an object of a type put into a free extent -/
theorem seen_alloc {l l' : List UInt64} (h : Rt l) {P S : List Hb} {b : Hb} {p q n : Nat} {t : List UInt8} (hb : allL l = P ++ (b :: S)) (hk : b.kind = 2) (hp : b.at_ = p) (hT : (T19 l)[q]? = some t) (hn : n = sizT t) (hle : (n : Int) ≤ b.size) (hl' : l' = putW l p (newW p n q b.size.toNat)) :
    Rt l' ∧ (∃ R, (R = [] ∧ b.size = n ∨ R = [{ restH p n b.size.toNat with next := l'.getD (p + n + 1) 0 }] ∧ b.size ≠ n) ∧ allL l' = P ++ (([objH p n q] ++ R) ++ S)) ∧ T19 l' = T19 l ∧ slots l' = slots l ∧ O19 l = objs P ++ objs S ∧ O19 l' = objs P ++ objH p n q :: objs S ∧ l'.length = l.length ∧
      (∀ a : Int, IsObj (O19 l) a → a ≠ p) ∧ (∀ c ∈ O19 l, ∀ j, j < (kindsB (T19 l) c).length → fw l' c j = fw l c j) ∧ (∀ j, j ≤ t.length → (t.length % 2 = 0 → j < t.length) → fw l' (objH p n q) j = 0) ∧ 128 ≤ p ∧ (p : Int) + b.size ≤ l.length ∧ (O19 l).length < 960 := by
  have hTk := T19_ok h.ty
  have hq8 : q < 8 := by have := (List.getElem?_eq_some_iff.1 hT).1; omega
  have ht8 : t.length ≤ 8 := (kErr_ok (hTk.2 t (List.mem_of_getElem? hT))).1
  obtain ⟨p', q', hc⟩ := Cut.of h.al (P := P) (M := [b]) (S := S) hb
  obtain ⟨o1, o2, o3⟩ := hc.s2.one
  have hpp : p' = p := by omega
  subst hpp
  have b1 := hc.s1.le
  have b2 := hc.s2.le
  have hbd := o3.bounds
  obtain ⟨c, hcc⟩ : ∃ c, c = b.size.toNat := ⟨_, rfl⟩
  have hcs : b.size = c := by omega
  have hnz : 2 ≤ n ∧ n ≤ 10 ∧ n % 2 = 0 := by rw [hn]; unfold sizT; omega
  obtain ⟨w1, w2, w3, w4⟩ := newW_get (l := l) (p := p') (n := n) (q := q) (c := c) (by omega) (by omega) (by omega)
  rw [← hcc, ] at hl'
  rw [← hl'] at w1 w2 w3 w4
  have hlen : l'.length = l.length := by rw [hl', putW_len]
  have f : Front l l' := ⟨hlen, by
    rw [hl', putW_eq _ _ _ (by rw [newW_len (by omega)]; split <;> omega), List.take_append, List.length_take, Nat.min_eq_left (by omega), show 128 - p' = 0 by omega, List.take_take, Nat.min_eq_left b1.1]; simp⟩
  have hokO : BkOk (objH p' n q) := by
    refine ⟨⟨?_, ?_⟩, .inl ⟨rfl, ⟨?_, ?_⟩, ?_⟩⟩
    · show (2 : Int) ≤ (n : Int); omega
    · show (n : Int) % 2 = 0; omega
    · show (0 : Int) ≤ (q : Int); omega
    · show (q : Int) < 8; omega
    · show (n : Int) ≤ 10; omega
  have segO : Seg l' p' [objH p' n q] (p' + n) := Seg.put (b := objH p' n q) hokO w1 rfl (by show (0 : UInt64) = _; rw [w2 (p' + 1) (by omega) (by omega)]) (by show ((p' + n : Nat) : Int) = p' + (n : Int); omega) (by omega)
  obtain ⟨R, hR, hR1, segR⟩ : ∃ R, (R = [] ∧ b.size = n ∨ R = [{ restH p' n c with next := l'.getD (p' + n + 1) 0 }] ∧ b.size ≠ n) ∧ (R = [] ∨ ∃ r, R = [r]) ∧ Seg l' (p' + n) R q' := by
    by_cases e : c = n
    · refine ⟨[], .inl ⟨rfl, by omega⟩, .inl rfl, ?_⟩
      have : q' = p' + n := by omega
      rw [this]; exact .nil (by omega)
    · refine ⟨_, .inr ⟨rfl, by omega⟩, .inr ⟨_, rfl⟩, ?_⟩
      have hok : BkOk (restH p' n c) := by
        have := h.sz.2.1
        refine ⟨⟨?_, ?_⟩, .inr ⟨rfl, rfl, rfl, ?_⟩⟩
        · show (2 : Int) ≤ ((c - n : Nat) : Int); omega
        · show ((c - n : Nat) : Int) % 2 = 0; omega
        · show ((c - n : Nat) : Int) ≤ 1920; omega
      exact Seg.put (b := { restH p' n c with next := l'.getD (p' + n + 1) 0 }) hok (by rw [w3 e]; rfl) rfl rfl (by show (q' : Int) = ((p' + n : Nat) : Int) + ((c - n : Nat) : Int); omega) (by omega)
  obtain ⟨a1, a2, a3⟩ := hc.new (N := [objH p' n q] ++ R) h.sz hlen (fun j h1 h2 => w4 j (by
    rcases h2 with h2 | h2
    · exact .inl h2
    · right
      by_cases e : c = n
      · by_cases e2 : j = p' + n
        · exact .inr ⟨e2, e⟩
        · left; omega
      · left; omega)) (segO.append segR) (adj_obj hc.na hk rfl hR1)
  have eO : O19 l = objs P ++ objs S := by
    unfold O19
    rw [hc.eq, objs_app, objs_app]
    have : objs [b] = [] := List.filter_eq_nil_iff.2 fun x hx => by rw [List.mem_singleton] at hx; subst hx; simp; omega
    rw [this]; simp
  have eO' : O19 l' = objs P ++ objH p' n q :: objs S := by
    unfold O19
    rw [a2, objs_app, objs_app, objs_app]
    have z1 : objs [objH p' n q] = [objH p' n q] := rfl
    have z2 : objs R = [] := by
      rcases hR with ⟨rfl, -⟩ | ⟨rfl, -⟩ <;> rfl
    rw [z1, z2]; simp
  have hside : ∀ c' ∈ O19 l, c'.at_ + c'.size ≤ p' ∨ (q' : Int) ≤ c'.at_ := fun c' hcm => by
    rw [eO] at hcm
    rcases List.mem_append.1 hcm with h3 | h3
    · left; exact (hc.s1.bound (objs_mem.1 h3).1).2.1
    · right; exact (hc.s3.bound (objs_mem.1 h3).1).1
  have hfw : ∀ c' ∈ O19 l, ∀ j, j ≤ (kindsB (T19 l) c').length → ((kindsB (T19 l) c').length % 2 = 0 → j < (kindsB (T19 l) c').length) → fw l' c' j = fw l c' j := fun c' hcm j h1 h2 => by
    obtain ⟨a, g1, g2, g3, g4, g5, g6, _⟩ := objs_at h.al hcm
    have hsz := (h.good 8 (by omega) (by omega) c' hcm).2
    have : (kindsB (T19 l) c').length % 2 = 0 ∨ (kindsB (T19 l) c').length % 2 = 1 := by omega
    refine w4 _ ?_
    rcases hside c' hcm with h3 | h3
    · left; omega
    · right; left; omega
  have hkO : kindsB (T19 l) (objH p' n q) = t := by
    unfold kindsB
    show (T19 l).getD (q : Int).toNat [] = t
    rw [Int.toNat_natCast, List.getD_eq_getElem?_getD, hT]; rfl
  have hfO : ∀ j, j ≤ t.length → (t.length % 2 = 0 → j < t.length) → fw l' (objH p' n q) j = 0 := fun j h1 h2 => by
    have : t.length % 2 = 0 ∨ t.length % 2 = 1 := by omega
    have hnn : n = 2 + (t.length + 1) / 2 * 2 := hn
    unfold fw
    show l'.getD ((p' : Int).toNat + 2 + j) 0 = 0
    rw [Int.toNat_natCast]
    exact w2 _ (by omega) (by omega)
  have hob : ∀ a : Int, IsObj (O19 l) a → IsObj (O19 l') a := fun a ⟨c', hcm, e⟩ => by
    rw [eO] at hcm
    refine ⟨c', ?_, e⟩
    rw [eO']
    rcases List.mem_append.1 hcm with h3 | h3
    · exact List.mem_append.2 (.inl h3)
    · exact List.mem_append.2 (.inr (List.mem_cons_of_mem _ h3))
  have hne : ∀ a : Int, IsObj (O19 l) a → a ≠ p' := fun a ⟨c', hcm, e⟩ => by
    have hb2 : 2 ≤ c'.size := by
      obtain ⟨a, g1, g2, g3, g4, g5, g6, g7, g8, _⟩ := objs_at h.al hcm
      omega
    rcases hside c' hcm with h3 | h3
    · omega
    · omega
  have rt' : Rt l' := f.rt h a1 (fun c' hcm => by
    rw [eO'] at hcm
    have hcase : c' ∈ O19 l ∨ c' = objH p' n q := by
      rw [eO]
      rcases List.mem_append.1 hcm with h3 | h3
      · exact .inl (List.mem_append.2 (.inl h3))
      · rcases List.mem_cons.1 h3 with h4 | h4
        · exact .inr h4
        · exact .inl (List.mem_append.2 (.inr h4))
    rcases hcase with hcl | rfl
    · refine ⟨h.good 7 (by omega) (by omega) c' hcl, h.good 8 (by omega) (by omega) c' hcl, ?_, ?_, ?_⟩
      · have h9 : Padded l (T19 l) c' := h.good 9 (by omega) (by omega) c' hcl
        by_cases h2 : (kindsB (T19 l) c').length % 2 = 0
        · exact .inl h2
        · refine .inr ?_
          rw [hfw c' hcl _ (Nat.le_refl _) (fun e => absurd e h2)]
          exact h9.resolve_left h2
      · intro j hj hj2
        rw [hfw c' hcl j (by omega) (fun _ => hj)]
        exact h.good 10 (by omega) (by omega) c' hcl j hj hj2
      · intro j hj hj2
        rw [hfw c' hcl j (by omega) (fun _ => hj)]
        have : fw l c' j = 0 ∨ IsObj (O19 l) (fw l c' j).toNat := h.good 11 (by omega) (by omega) c' hcl j hj hj2
        exact this.imp id fun h3 => hob _ h3
    · refine ⟨⟨rfl, rfl⟩, ⟨?_, ?_⟩, ?_, ?_, ?_⟩
      · show (q : Int) < _
        have := (List.getElem?_eq_some_iff.1 hT).1; omega
      · rw [hkO]; show (n : Int) = _; rw [hn]; unfold sizT; omega
      · unfold Padded; rw [hkO]
        by_cases h2 : t.length % 2 = 0
        · exact .inl h2
        · exact .inr (hfO _ (Nat.le_refl _) (fun e => absurd e h2))
      · intro j hj hj2
        rw [hkO] at hj
        rw [hfO j (by omega) (fun _ => hj)]; decide
      · intro j hj hj2
        rw [hkO] at hj
        exact .inl (hfO j (by omega) (fun _ => hj))) (fun s hs hu => hob _ (h.slots s hs hu))
  refine ⟨rt', ⟨R, by rw [← hcc]; exact hR, a2⟩, f.types, f.open_.2, eO, eO', hlen, hne, fun c' hcm j hj => hfw c' hcm j (by omega) (fun _ => hj), hfO, b1.1, by omega, ?_⟩
  have h2 := chain_len (chain_iff.1 (parsed_ok.1 (allErr_ok h.al).2).1)
  have hsz := h.sz.2.1
  have e1 : (O19 l).length ≤ P.length + S.length := by rw [eO, List.length_append]; exact Nat.add_le_add (List.length_filter_le _ _) (List.length_filter_le _ _)
  rw [hb, List.length_append, List.length_cons] at h2
  omega
end Go.Proofs.Ytodbbacmdjcheaa.L19
