/- Contracts of the functions that the laws 'B' reach, part 17. No condition. -/
import Derived.Test.YtmbokdnndlnjkaaMBp
set_option linter.unusedVariables false
set_option linter.unusedSimpArgs false
namespace Go.Proofs.Ytmbokdnndlnjkaa
open Go.RowKit L02 L13 L18 L20
/-- the number of a slot is stored -/
theorem OwnS.put1 {w : World} {B E g n c k : Nat} {S : List Sl} {s : Sl} (h : OwnS w B E (.slice (some ⟨g, 0, none⟩) n c) S) (hs : S[k]? = some s) (a : Int) :
    OwnS (w.setCell ⟨g, k * 3 + 2, none⟩ (.int .i64 a)) B E (.slice (some ⟨g, 0, none⟩) n c) (S.set k ⟨s.gen, s.used, a⟩) ∧
      w.grownBy (w.setCell ⟨g, k * 3 + 2, none⟩ (.int .i64 a)) (some g) ∧ B ≤ g ∧ g < w.heap.size ∧ ∀ j, w.frozen? ⟨g, j, none⟩ = false := by
  have hk : k < S.length := (List.getElem?_eq_some_iff.1 hs).1
  have hn : n = S.length := by
    obtain ⟨g', cap, cur, hv, _⟩ := own_form h (by omega)
    injection hv
  subst hn
  have h3 := World.ownsRow.stored h (k * 3 + 2) (.int .i64 a)
  have hl := h.lt g rfl
  have hsame : ∀ i : Nat, i < 3 → ∀ u, (slC s)[i]? = some u → (tabL S).set (k * 3 + i) u = tabL S := by
    intro i hi u hu
    have t0 := tabL_get S k s hs i hi
    rw [hu] at t0
    apply List.ext_getElem?
    intro j
    by_cases hj : j = k * 3 + i
    · subst hj
      rw [List.getElem?_set_self (List.getElem?_eq_some_iff.1 t0).1, t0]
    · rw [List.getElem?_set_ne (Ne.symm hj)]
  have h0 := hsame 0 (by omega) (.int .i64 s.gen) rfl
  have h1 := hsame 1 (by omega) (.bool s.used) rfl
  rw [Nat.add_zero] at h0
  refine ⟨?_, h3.2, hl.1, hl.2, fun j => h.frozenAt j⟩
  unfold OwnS
  rw [← tabL_set S k ⟨s.gen, s.used, a⟩ hk, List.length_set]
  show World.ownsRow _ _ _ _ _ _ ((((tabL S).set (k * 3) (.int .i64 s.gen)).set (k * 3 + 1) (.bool s.used)).set (k * 3 + 2) (.int .i64 a))
  rw [h0, h1]
  exact h3.1
theorem own_ne_bx {w : World} {B e sz n n' p g c : Nat} {xs : List Value} {t : TypeId} {cs : Array Value} (h : w.ownsRow B e sz (.slice (some ⟨g, 0, none⟩) n c) n' xs) (hg : Bx w p t cs) (hne : e ≠ t) : g ≠ p := by
  rintro rfl
  rcases own_not_bx h hg hne with h | h
  · cases h
  · exact h rfl
end Go.Proofs.Ytmbokdnndlnjkaa
namespace Go.Proofs.Ytmbokdnndlnjkaa
open Go.RowKit L01 L02 L05 L06 L07 L13 L14 L15 L16 L18 L19
/-- the heap is one free extent -/
def whole (L : List Hb) : Bool := match L with | [b] => decide (b.kind = 2) | _ => false
end Go.Proofs.Ytmbokdnndlnjkaa
namespace Go.Proofs.Ytmbokdnndlnjkaa
open Go Go.RowKit
section
variable {P : Program} {ops : Array Oper} {w : World}
theorem wpStill_of_quiet {Q : Act → Prop} : ∀ (l : List Oper) (a : Act), wpQuiet P ops (fun W => W = w) Q l a → wpStill P ops w Q l a
  | [], a, h => h
  | o :: l, a, h => by
    unfold wpQuiet at h
    unfold wpStill
    by_cases hw : Region.wanted o (yielded ops a.tmps) = true
    · rw [if_pos hw] at h ⊢
      obtain ⟨v, h1, h2⟩ := h
      have h3 := h1 w rfl
      have h4 := wpStill_of_quiet l _ h2
      unfold Oper.quietAt at h3
      unfold Oper.still
      cases hr : (execOp a.eval o).run P w with
      | ok n w' =>
        rw [hr] at h3
        cases n with
        | value u => obtain ⟨e1, e2⟩ := h3; subst e2; exact ⟨e1, h4⟩
        | skip => obtain ⟨e1, e2⟩ := h3; subst e2; exact ⟨e1, h4⟩
        | enter f args => obtain ⟨e1, e2⟩ := h3; exact ⟨e1, v, e2, h4⟩
        | _ => exact absurd h3 id
      | halt x w' => rw [hr] at h3; exact absurd h3 id
    · rw [if_neg hw] at h ⊢
      exact wpStill_of_quiet l _ h
theorem wp_region_qtail {id : Nat} {Q : Exit → Act → World → Prop} {a : Act} {l : List Oper} (n : Nat) (hm : P.follows .mixedOrders = true) (hB : Region.lexTailB .any l.toArray n = true)
    (h : wpQuiet P l.toArray (fun W => W = w.drew) (fun a' => wpList P l.toArray Q (l.drop n) a' w.drew) (l.take n) a) : (Code.region id l.toArray true).wp P Q a w :=
  wp_region_still_tail n hm hB (wpStill_of_quiet _ _ h)
end
end Go.Proofs.Ytmbokdnndlnjkaa
namespace Go.Proofs.Ytmbokdnndlnjkaa
open Go.RowKit L01 L02 L05 L06 L07 L13 L14 L15 L18 L19 L20
theorem refV_idxI {O : List Hb} {v : UInt64} (h : O.length ≤ 960) : ((refV O v).toNat : Int) = idxI O v.toNat + 1 := by
  unfold refV idxI
  cases h2 : idx O v.toNat with
  | none => simp
  | some i =>
    obtain ⟨b, h3, _⟩ := idx_some h2
    have := (List.getElem?_eq_some_iff.1 h3).1
    show ((UInt64.ofNat (i + 1)).toNat : Int) = (i : Int) + 1
    rw [UInt64.toNat_ofNat', Nat.mod_eq_of_lt (by omega)]; omega
theorem slOf_used {O : List Hb} {s : Sl} (h : s.used = true) : slOf O s = ⟨s.gen, true, idxI O s.at_⟩ := by
  unfold slOf; rw [if_pos h]; rfl
theorem slOf_not {O : List Hb} {s : Sl} (h : s.used = false) : slOf O s = s := by unfold slOf; rw [h]; rfl
theorem form_T {w : World} {B : Nat} {v : Value} {L : List (List UInt8)} (h : OwnT w B v L) : ∃ A n c, v = .slice A n c := by
  obtain ⟨vs, _, h2, _⟩ := h
  obtain ⟨A, c, e⟩ := own_form' h2
  exact ⟨A, _, c, e⟩
end Go.Proofs.Ytmbokdnndlnjkaa
namespace Go.Proofs.Ytmbokdnndlnjkaa
open Go.RowKit L01 L02 L18
end Go.Proofs.Ytmbokdnndlnjkaa
namespace Go.Proofs.Ytmbokdnndlnjkaa
open Go.RowKit L01 L02 L05 L06 L07 L13 L14 L15 L18 L19 L20
end Go.Proofs.Ytmbokdnndlnjkaa
namespace Go.Proofs.Ytmbokdnndlnjkaa
open Go.RowKit L01 L02 L05 L06 L07 L13 L14 L15 L18 L19 L20
end Go.Proofs.Ytmbokdnndlnjkaa
namespace Go.Proofs.Ytmbokdnndlnjkaa
open Go.RowKit
/-- a pointer to a handle, or none -/
def PtrH (w : World) (v : Value) (tt : Option (Int × Int)) : Prop := match tt with
  | none => v = .pointer none
  | some t => ∃ g, v = .pointer (some ⟨g, 0, none⟩) ∧ Bx w g 35 #[.int .i64 t.1, .int .i64 t.2]
theorem PtrH.below {w w' : World} {v : Value} {tt : Option (Int × Int)} (h : PtrH w v tt) (hb : Below w.heap.size w w') : PtrH w' v tt := by
  cases tt with
  | none => exact h
  | some t => obtain ⟨g, h1, h2⟩ := h; exact ⟨g, h1, h2.below hb⟩
end Go.Proofs.Ytmbokdnndlnjkaa
namespace Go.Proofs.Ytmbokdnndlnjkaa
open Go.RowKit L01 L02 L05 L06 L07 L13 L14 L15 L18 L19 L20
theorem ent_own {w : World} {base : Nat} {a : Int} {x : UInt64} (h : base ≤ w.heap.size) : OwnE (w.alloc (.cells #[.int .i64 a, .int .u64 x.toNat] 50)) base (.slice (some ⟨w.heap.size, 0, none⟩) 1 1) [(a, x)] :=
  ⟨rfl, .inr ⟨w.heap.size, 1, #[.int .i64 a, .int .u64 x.toNat], rfl, h, blk_new w _, Nat.le_refl _, by decide, rfl, rfl⟩⟩
end Go.Proofs.Ytmbokdnndlnjkaa
namespace Go.Proofs.Ytmbokdnndlnjkaa.L20
open L02 L13 L18
theorem zeros_get (n i : Nat) : (List.replicate n (0 : UInt64)).getD i 0 = 0 := by
  rw [List.getD_eq_getElem?_getD, List.getElem?_replicate]; split <;> rfl
/-- what is known of an object that was allocated -/
structure Alld (m : Mo) (t : Int) (k : Nat) (g0 : Int) : Prop where
  hc : chk m = 0
  ht : 0 ≤ t ∧ t < m.types.length
  hn : m.objs.length < 960
  hk : k < 16
  hs : m.slots[k]? = some ⟨g0, false, 0⟩
  hg : 0 ≤ g0 ∧ g0 < 2147483647
  hM : allM m t = ⟨m.types, m.objs ++ [newO m t], m.slots.set k ⟨g0 + 1, true, m.objs.length⟩⟩
  hS : allS m t = k
  hG : allG m t = g0 + 1
theorem Alld.of {m : Mo} {t : Int} (h : allE m t = 0) : ∃ k g0, Alld m t k g0 := by
  have h' := h
  unfold allE at h
  split at h
  · rename_i hc
    obtain ⟨h8, h960, h16, hty, hobs, hsl⟩ := chk_ok hc
    split at h
    · rename_i ht
      split at h
      · omega
      · rename_i hnx
        split at h
        · omega
        · rename_i hl
          obtain ⟨k, hk⟩ := Option.ne_none_iff_exists'.1 hnx
          obtain ⟨_, ⟨s, hs, hu, hg1⟩, _⟩ := nextFrom_some hk
          rw [Nat.sub_zero] at hs
          have hkl : k < 16 := by have := (List.getElem?_eq_some_iff.1 hs).1; omega
          have hsk := hsl s (List.mem_of_getElem? hs)
          obtain ⟨g0, u, a⟩ := s
          dsimp only at hu hg1
          subst hu
          obtain rfl : a = 0 := hsk.2.1 rfl
          have hgd : m.slots.getD k .none = ⟨g0, false, 0⟩ := by rw [List.getD_eq_getElem?_getD, hs]; rfl
          have hg2 := hsk.1
          dsimp only at hg2
          refine ⟨k, g0, hc, ht, by omega, hkl, hs, by omega, ?_, ?_, ?_⟩
          · rw [allM, if_pos h', hk, Option.getD_some, givS, hgd]
          · rw [allS, if_pos h', hk, Option.getD_some]
          · rw [allG, if_pos h', hk, Option.getD_some, hgd]
    · omega
  · omega
section
variable {m : Mo} {t : Int} {k : Nat} {g0 : Int} (h : Alld m t k g0)
include h
/-- the new model -/
theorem Alld.slot : (m.slots.set k ⟨g0 + 1, true, m.objs.length⟩)[k]? = some ⟨g0 + 1, true, m.objs.length⟩ := by
  have h1 := (List.getElem?_eq_some_iff.1 h.hs).1
  rw [List.getElem?_set_self h1]
theorem Alld.ok : chk (allM m t) = 0 := by
  obtain ⟨h8, h960, h16, hty, hobs, hsl⟩ := chk_ok h.hc
  have hn := h.hn
  rw [h.hM]
  refine chk_zero (by simp; omega) ⟨by simpa using h16, hty, fun o ho => ?_, fun s hs => ?_⟩
  · rcases List.mem_append.1 ho with ho | ho
    · obtain ⟨a1, a2, a3⟩ := hobs o ho
      refine ⟨a1, a2, fun i hi => ?_⟩
      obtain ⟨b1, b2⟩ := a3 i hi
      exact ⟨b1, fun e => Nat.le_trans (b2 e) (by simp)⟩
    · rw [List.mem_singleton] at ho
      subst ho
      have ht := h.ht
      refine ⟨ht, by simp [newO, ty], fun i hi => ?_⟩
      simp only [newO, zeros_get]
      exact ⟨fun _ => by decide, fun _ => by simp⟩
  · rcases List.mem_or_eq_of_mem_set hs with hs | hs
    · obtain ⟨a1, a2, a3⟩ := hsl s hs
      exact ⟨a1, a2, fun e => by have := a3 e; simp; omega⟩
    · subst hs
      have := h.hg
      refine ⟨?_, ?_, ?_⟩
      · dsimp only; omega
      · intro e; cases e
      · intro _; simp; omega
theorem Alld.len : (allM m t).objs.length = m.objs.length + 1 := by rw [h.hM]; simp
theorem Alld.right : rightErr (allM m t).slots k (g0 + 1) = 0 := by
  have hk := h.hk
  have hs := h.slot
  have h16 := (chk_ok h.hc).2.2.1
  have hgd : (m.slots.set k ⟨g0 + 1, true, m.objs.length⟩).getD k .none = ⟨g0 + 1, true, m.objs.length⟩ := by rw [List.getD_eq_getElem?_getD, hs]; rfl
  rw [h.hM, rightErr, if_pos (by simp; omega), if_pos]
  rw [Int.toNat_natCast, hgd]
  exact ⟨rfl, rfl⟩
theorem Alld.own : own (allM m t) k = m.objs.length := by
  rw [L20.own, Int.toNat_natCast, h.hM, List.getD_eq_getElem?_getD, h.slot]; simp
theorem Alld.idle : ¬ Busy (allM m t) k m.objs.length := by
  obtain ⟨h8, h960, h16, hty, hobs, hsl⟩ := chk_ok h.hc
  rw [h.hM]
  rintro (⟨i, hi, hne, hu, ha⟩ | ⟨i, hi, hne, j, hj, hr⟩)
  · have hik : k ≠ i := fun e => hne (by rw [e])
    have hi' : i < m.slots.length := by simpa using hi
    have e : (m.slots.set k ⟨g0 + 1, true, m.objs.length⟩).getD i .none = m.slots[i] := by
      rw [List.getD_eq_getElem?_getD, List.getElem?_set_ne hik, List.getElem?_eq_getElem hi']; rfl
    dsimp only at hu ha
    rw [e] at hu ha
    have := (hsl _ (List.getElem_mem hi')).2.2 hu
    omega
  · have hi' : i < m.objs.length := by simp at hi; omega
    have e : ob ⟨m.types, m.objs ++ [newO m t], m.slots.set k ⟨g0 + 1, true, m.objs.length⟩⟩ i = m.objs[i] := by
      simp [ob, List.getD_eq_getElem?_getD, List.getElem?_append_left hi', List.getElem?_eq_getElem hi']
    rw [e] at hj hr
    have := ((hobs _ (List.getElem_mem hi')).2.2 j hj).2 hr.1
    have h2 := hr.2
    omega
theorem Alld.asked : asked (allM m t) k (g0 + 1) = 0 := by rw [L20.asked, if_pos h.ok, h.right]
theorem Alld.free : freeE (allM m t) k (g0 + 1) = 0 := by rw [freeE, if_pos h.asked, h.own, if_neg h.idle]
theorem Alld.freed : freeM (allM m t) k (g0 + 1) = ⟨m.types, m.objs, m.slots.set k ⟨g0 + 1, false, 0⟩⟩ := by
  obtain ⟨h8, h960, h16, hty, hobs, hsl⟩ := chk_ok h.hc
  have hn := h.hn
  rw [freeM, if_pos h.free, h.own, h.hM, Int.toNat_natCast]
  dsimp only
  congr 1
  · rw [List.map_append, List.eraseIdx_append_of_length_le (by simp)]
    simp only [List.length_map, Nat.sub_self, List.map_cons, List.map_nil, List.eraseIdx_cons_zero, List.append_nil]
    conv => rhs; rw [← List.map_id m.objs]
    refine List.map_congr_left fun o ho => ?_
    obtain ⟨a1, a2, a3⟩ := hobs o ho
    rw [lowO, id]
    obtain ⟨oty, ofs⟩ := o
    congr 1
    apply List.ext_getElem?
    intro i
    rcases Nat.lt_or_ge i ofs.length with hi | hi
    · have h3 := (a3 i hi).2
      rw [List.getElem?_map, List.getElem?_range hi, Option.map_some, List.getElem?_eq_getElem hi]
      congr 1
      have hg : ofs.getD i 0 = ofs[i] := by rw [List.getD_eq_getElem?_getD, List.getElem?_eq_getElem hi]; rfl
      rw [lowV, if_neg, hg]
      rintro ⟨c1, c2⟩
      have := h3 c1
      omega
    · rw [List.getElem?_eq_none (by simpa using hi), List.getElem?_eq_none hi]
  · rw [List.set_set]
    conv => rhs; rw [← List.map_id (m.slots.set k ⟨g0 + 1, false, 0⟩)]
    refine List.map_congr_left fun s hs => ?_
    rw [lowS, id]
    rcases List.mem_or_eq_of_mem_set hs with hs | hs
    · split
      · rename_i hu
        have := (hsl s hs).2.2 hu
        obtain ⟨sg, su, sa⟩ := s
        dsimp only at hu this ⊢
        subst hu
        rw [lowA, if_neg (by omega)]
      · rfl
    · subst hs; rfl
end
end Go.Proofs.Ytmbokdnndlnjkaa.L20
namespace Go.Proofs.Ytmbokdnndlnjkaa.L20
open L02 L13 L18
theorem ob_putF {m : Mo} {n i : Nat} {v : UInt64} (hn : n < m.objs.length) : ob (putF m n i v) n = ⟨(ob m n).ty, (ob m n).fs.set i v⟩ := by
  rw [ob, putF, List.getD_eq_getElem?_getD, List.getElem?_set_self hn]; rfl
theorem ob_putF_ne {m : Mo} {n a i : Nat} {v : UInt64} (hn : n ≠ a) : ob (putF m n i v) a = ob m a := by
  rw [ob, putF, List.getD_eq_getElem?_getD, List.getElem?_set_ne hn, ob, List.getD_eq_getElem?_getD]
theorem len_putF {m : Mo} {n i : Nat} {v : UInt64} : (putF m n i v).objs.length = m.objs.length := by simp [putF]
theorem chk_putF {m : Mo} {n i : Nat} {v : UInt64} (hc : chk m = 0) (hn : n < m.objs.length) (hv : i < (ob m n).fs.length → FdOk m.objs.length ((ty m.types (ob m n)).getD i 0) v) : chk (putF m n i v) = 0 := by
  obtain ⟨h8, h960, h16, hty, hobs, hsl⟩ := chk_ok hc
  refine chk_zero (by rw [len_putF]; simp only [putF]; omega) ⟨h16, hty, fun o ho => ?_, fun s hs => ?_⟩
  · rw [len_putF]
    show ObOk m.types m.objs.length o
    rcases List.mem_or_eq_of_mem_set ho with ho | ho
    · exact hobs o ho
    · have hob : ob m n ∈ m.objs := by rw [ob, List.getD_eq_getElem?_getD, List.getElem?_eq_getElem hn]; exact List.getElem_mem hn
      obtain ⟨a1, a2, a3⟩ := hobs _ hob
      subst ho
      refine ⟨a1, by rw [List.length_set]; exact a2, fun j hj => ?_⟩
      have hj' : j < (ob m n).fs.length := by simpa using hj
      show FdOk m.objs.length ((ty m.types (ob m n)).getD j 0) (((ob m n).fs.set i v).getD j 0)
      by_cases hij : i = j
      · subst hij
        rw [show ((ob m n).fs.set i v).getD i 0 = v by rw [List.getD_eq_getElem?_getD, List.getElem?_set_self hj']; rfl]
        exact hv hj'
      · rw [show ((ob m n).fs.set i v).getD j 0 = (ob m n).fs.getD j 0 by rw [List.getD_eq_getElem?_getD, List.getElem?_set_ne hij, ← List.getD_eq_getElem?_getD]]
        exact a3 j hj'
  · rw [len_putF]; exact hsl s hs
theorem asked_putF {m : Mo} {n i : Nat} {v : UInt64} {sl g : Int} (hc : chk m = 0) (hp : chk (putF m n i v) = 0) : asked (putF m n i v) sl g = asked m sl g := by
  rw [asked, asked, if_pos hc, if_pos hp]; rfl
theorem own_putF {m : Mo} {n i : Nat} {v : UInt64} {sl : Int} : own (putF m n i v) sl = own m sl := rfl
theorem kinds_putF {m : Mo} {n i : Nat} {v : UInt64} {sl : Int} (hn : n < m.objs.length) (ho : own m sl = n) : kinds (putF m n i v) sl = kinds m sl := by
  rw [kinds, kinds, own_putF, ho, ob_putF hn]; rfl
end Go.Proofs.Ytmbokdnndlnjkaa.L20
namespace Go.Proofs.Ytmbokdnndlnjkaa.L20
open L02 L13 L18
/-- a field of the object of a right handle of a valid model -/
structure Ed (m : Mo) (k n i : Nat) (sg : Int) (o : Ob) (t : List UInt8) (kd : UInt8) (x0 : UInt64) : Prop where
  hc : chk m = 0
  hr : rightErr m.slots k sg = 0
  hs : m.slots[k]? = some ⟨sg, true, n⟩
  hn : n < m.objs.length
  ho : m.objs[n]? = some o
  hob : ob m n = o
  hi : i < o.fs.length
  hx : o.fs[i]? = some x0
  hown : own m k = n
  hty : 0 ≤ o.ty ∧ o.ty < m.types.length
  ht : m.types[o.ty.toNat]? = some t
  hk : t[i]? = some kd
  htl : t.length = o.fs.length
  htt : ty m.types o = t
  hE : kErrF m k sg i = 0
  hkd : kind m k sg i = kd
  hfd : FdOk m.objs.length kd x0
theorem Ed.of {m : Mo} {k n i : Nat} {sg : Int} {s : Sl} {o : Ob} {t : List UInt8} (hc : chk m = 0) (hr : rightErr m.slots k sg = 0) (hs : m.slots[k]? = some s) (hu : s.used = true) (hg : s.gen = sg) (hat : s.at_ = n) (ho : m.objs[n]? = some o) (hob : ob m n = o) (hoo : ObOk m.types m.objs.length o)
    (hown : own m k = n) (ht : m.types[o.ty.toNat]? = some t) (htt : ty m.types o = t) (hkinds : kinds m k = t) (hfl : o.fs.length = t.length) (hi : i < o.fs.length) : ∃ kd x0, Ed m k n i sg o t kd x0 := by
  obtain ⟨g, u, a⟩ := s
  dsimp only at hu hg hat
  subst hu; subst hg; subst hat
  have ha : asked m k g = 0 := by rw [asked, if_pos hc, hr]
  have hk : t[i]? = some t[i] := List.getElem?_eq_getElem (by omega)
  have hx : o.fs[i]? = some o.fs[i] := List.getElem?_eq_getElem hi
  have hE : kErrF m k g i = 0 := by rw [kErrF, if_pos ha, if_pos (by rw [hkinds]; omega)]
  have hf := hoo.2.2 i hi
  rw [htt, List.getD_eq_getElem?_getD, hk, List.getD_eq_getElem?_getD, hx] at hf
  exact ⟨t[i], o.fs[i], hc, hr, hs, (List.getElem?_eq_some_iff.1 ho).1, ho, hob, hi, hx, hown, hoo.1, ht, hk, hfl.symm, htt, hE, by rw [kind, if_pos hE, hkinds, Int.toNat_natCast, List.getD_eq_getElem?_getD, hk]; rfl, hf⟩
theorem setV_ok {N : Nat} {kd : UInt8} {v : UInt64} (h : kd.toNat ≠ 3) : FdOk N kd (setV kd v) := by
  refine ⟨fun h2 => ?_, fun h3 => absurd h3 h⟩
  unfold setV
  split
  · exact .inl rfl
  · rename_i h4
    exact Decidable.not_not.1 fun h5 => h4 ⟨h2, h5⟩
section
variable {m : Mo} {k n i : Nat} {sg : Int} {o : Ob} {t : List UInt8} {kd : UInt8} {x0 : UInt64} (h : Ed m k n i sg o t kd x0)
include h
theorem Ed.chk {v : UInt64} (hv : FdOk m.objs.length kd v) : L20.chk (putF m n i v) = 0 := by
  refine chk_putF h.hc h.hn fun _ => ?_
  rw [h.hob, h.htt, List.getD_eq_getElem?_getD, h.hk]; exact hv
/-- the field of an edited model -/
theorem Ed.put {v : UInt64} (hv : FdOk m.objs.length kd v) : Ed (putF m n i v) k n i sg ⟨o.ty, o.fs.set i v⟩ t kd v := by
  have hp := h.chk hv
  have hob : ob (putF m n i v) n = ⟨o.ty, o.fs.set i v⟩ := by rw [ob_putF h.hn, h.hob]
  have hki : kinds (putF m n i v) k = kinds m k := kinds_putF h.hn h.hown
  have hE : kErrF (putF m n i v) k sg i = kErrF m k sg i := by unfold kErrF; rw [asked_putF h.hc hp, hki]
  refine ⟨hp, h.hr, h.hs, by rw [len_putF]; exact h.hn, ?_, hob, by simpa using h.hi, List.getElem?_set_self h.hi, h.hown, h.hty, h.ht, h.hk, by simpa using h.htl, h.htt, hE.trans h.hE, ?_, by rw [len_putF]; exact hv⟩
  · show (m.objs.set n _)[n]? = _
    rw [List.getElem?_set_self h.hn, h.hob]
  · unfold kind; rw [hE, hki]; exact h.hkd
theorem Ed.fld : fld m k i = x0 := by rw [L20.fld, h.hown, h.hob, Int.toNat_natCast, List.getD_eq_getElem?_getD, h.hx]; rfl
theorem Ed.get (h3 : kd.toNat ≠ 3) : getE m k sg i = 0 ∧ getV m k sg i = x0 := by
  have e : getE m k sg i = 0 := by rw [getE, if_pos h.hE, h.hkd, if_neg h3]
  exact ⟨e, by rw [getV, if_pos e, h.fld]⟩
theorem Ed.get3 (h3 : kd.toNat = 3) : getE m k sg i = 42 ∧ getV m k sg i = 0 := by
  have e : getE m k sg i = 42 := by rw [getE, if_pos h.hE, h.hkd, if_pos h3]
  exact ⟨e, by rw [getV, e]; rfl⟩
theorem Ed.put_eq {v : UInt64} : L20.put m k i v = putF m n i v := by rw [L20.put, h.hown, Int.toNat_natCast]
theorem Ed.set {v : UInt64} (h3 : kd.toNat ≠ 3) : setM m k sg i v = putF m n i (setV kd v) := by rw [setM, if_pos (h.get h3).1, h.hkd, h.put_eq]
theorem Ed.set3 {v : UInt64} (h3 : kd.toNat = 3) : setM m k sg i v = .nil := by rw [setM, (h.get3 h3).1]; rfl
theorem Ed.ref (tq : Int × Int) (h3 : kd.toNat = 3) : refE m k sg i (some tq) = rightErr m.slots tq.1 tq.2 := by unfold refE; rw [if_pos h.hE, h.hkd, if_pos h3]
theorem Ed.refM (tq : Int × Int) (h3 : kd.toNat = 3) (hr : rightErr m.slots tq.1 tq.2 = 0) : refM m k sg i (some tq) = putF m n i (UInt64.ofNat (own m tq.1 + 1)) := by rw [L20.refM, if_pos (by rw [h.ref tq h3, hr]), h.put_eq]
/-- a new handle: there is no slot, or this one -/
theorem Ed.root (h3 : kd.toNat = 3) (hx : x0 ≠ 0) : rootE m k sg i = 23 ∨ (rootE m k sg i = 0 ∧ ∃ (kk : Nat) (g0 : Int), kk < 16 ∧ m.slots[kk]? = some ⟨g0, false, 0⟩ ∧ rootS m k sg i = kk ∧ rootG m k sg i = g0 + 1 ∧ 0 ≤ g0 ∧
    rootM m k sg i = ⟨m.types, m.objs, m.slots.set kk ⟨g0 + 1, true, (x0.toNat - 1 : Nat)⟩⟩ ∧ L20.chk (rootM m k sg i) = 0 ∧ rightErr (rootM m k sg i).slots kk (g0 + 1) = 0 ∧ (rootM m k sg i).slots[kk]? = some ⟨g0 + 1, true, (x0.toNat - 1 : Nat)⟩) := by
  obtain ⟨h8, h960, h16, hty, hobs, hsl⟩ := chk_ok h.hc
  have he : rootE m k sg i = if next m.slots = none then 23 else 0 := by rw [rootE, if_pos h.hE, h.hkd, if_pos h3, h.fld, if_neg hx]
  by_cases hnx : next m.slots = none
  · left; rw [he, if_pos hnx]
  · right
    rw [if_neg hnx] at he
    obtain ⟨kk, hk⟩ := Option.ne_none_iff_exists'.1 hnx
    obtain ⟨_, ⟨s, hs, hu, hg1⟩, _⟩ := nextFrom_some hk
    rw [Nat.sub_zero] at hs
    have hkl : kk < 16 := by have := (List.getElem?_eq_some_iff.1 hs).1; omega
    have hsk := hsl s (List.mem_of_getElem? hs)
    obtain ⟨g0, u, a⟩ := s
    dsimp only at hu hg1
    subst hu
    obtain rfl : a = 0 := hsk.2.1 rfl
    have hgd : m.slots.getD kk .none = ⟨g0, false, 0⟩ := by rw [List.getD_eq_getElem?_getD, hs]; rfl
    have hg2 := hsk.1
    dsimp only at hg2
    have hM : rootM m k sg i = ⟨m.types, m.objs, m.slots.set kk ⟨g0 + 1, true, (x0.toNat - 1 : Nat)⟩⟩ := by
      rw [rootM, if_pos he, hk, Option.getD_some, givS, hgd, h.fld]
    have hself : (m.slots.set kk ⟨g0 + 1, true, ((x0.toNat - 1 : Nat) : Int)⟩)[kk]? = some ⟨g0 + 1, true, ((x0.toNat - 1 : Nat) : Int)⟩ := List.getElem?_set_self (by omega)
    have hx1 : 0 < x0.toNat := Nat.pos_of_ne_zero fun e => hx (UInt64.toNat.inj e)
    have hle := h.hfd.2 h3
    refine ⟨he, kk, g0, hkl, hs, by rw [rootS, if_pos he, hk]; rfl, by rw [rootG, if_pos he, hk, Option.getD_some, hgd], hg2.1, hM, ?_, ?_, by rw [hM]; exact hself⟩
    · rw [hM]
      refine chk_zero (by dsimp only; omega) ⟨by simpa using h16, hty, hobs, fun s hs' => ?_⟩
      rcases List.mem_or_eq_of_mem_set hs' with hs' | rfl
      · exact hsl s hs'
      · refine ⟨by dsimp only; omega, fun e => (by cases e), fun _ => ⟨by dsimp only; omega, by dsimp only; omega, by dsimp only; omega⟩⟩
    · rw [hM]
      show rightErr (m.slots.set kk ⟨g0 + 1, true, ((x0.toNat - 1 : Nat) : Int)⟩) kk (g0 + 1) = 0
      rw [rightErr, if_pos (by rw [List.length_set]; omega), Int.toNat_natCast, List.getD_eq_getElem?_getD, hself]
      simp
end
end Go.Proofs.Ytmbokdnndlnjkaa.L20
namespace Go.Proofs.Ytmbokdnndlnjkaa.L19
open L02 L07 L13 L14 L15 L16 L18 L20
/-- an image with a change made -/
def put1 (l : List UInt64) (e : Int × UInt64) : List UInt64 := if 0 ≤ e.1 ∧ e.1 < l.length then l.set e.1.toNat e.2 else l
def made (l : List UInt64) (E : List (Int × UInt64)) : List UInt64 := (E.take 100).foldl put1 l
theorem put1_len (l : List UInt64) (e : Int × UInt64) : (put1 l e).length = l.length := by
  unfold put1; split
  · rw [List.length_set]
  · rfl
theorem put1_set {l : List UInt64} {p : Nat} {y : UInt64} (h : p < l.length) : put1 l ((p : Int), y) = l.set p y := by
  unfold put1
  rw [if_pos ⟨by show (0 : Int) ≤ (p : Int); omega, by show (p : Int) < _; omega⟩, Int.toNat_natCast]
theorem made_one {l : List UInt64} {p : Nat} {y : UInt64} (h : p < l.length) : made l [((p : Int), y)] = l.set p y := put1_set h
theorem set_back {l : List UInt64} {p : Nat} {x y : UInt64} (h : l[p]? = some x) : (l.set p y).set p x = l := by
  rw [List.set_set]
  apply List.ext_getElem?
  intro i
  by_cases hi : i = p
  · subst hi
    rw [List.getElem?_set_self (List.getElem?_eq_some_iff.1 h).1, h]
  · rw [List.getElem?_set_ne (fun e => hi e.symm)]
section
variable {l : List UInt64} {k a nn q i : Nat} {sg : Int} {b : Hb} {t : List UInt8} {kd : UInt8} {x : UInt64}
theorem Hd.mk2 (rt : Rt l) (hk : k < 16) (hs : (slots l)[k]? = some ⟨sg, true, a⟩) (ho : (O19 l)[nn]? = some b) (hat : b.at_ = a) : ∃ q t, Hd l k a nn q sg b t := by
  have hr : resErr l k sg = 0 := by
    rw [(resErr_at rt.sl hs sg).1]; simp
  have ha : askI l k sg = 0 := by rw [askI, if_pos rt.chk, hr]
  obtain ⟨k', a', nn', q, b', t, e, h⟩ := Hd.of ha
  have : k' = k := by omega
  subst this
  have h1 := h.hs
  rw [hs] at h1
  injection h1 with h1
  injection h1 with _ _ h1
  have : a' = a := by omega
  subst this
  have hb : b' = b := objs_inj rt.al (List.mem_of_getElem? h.ho) (List.mem_of_getElem? ho) (by rw [h.hat, hat])
  subst hb
  have hn := objs_idx rt.al h.ho ho
  subst hn
  exact ⟨q, t, h⟩
theorem Fd.mk2 (h : Hd l k a nn q sg b t) (hi : i < t.length) : ∃ kd x, Fd l k a nn q i sg b t kd x := by
  have hE : kiErr l k sg i = 0 := by rw [kiErr, if_pos h.hask, h.kinds, if_pos ⟨by omega, by omega⟩]
  obtain ⟨k', a', nn', q', i', b', t', kd, x, e1, e2, f⟩ := Fd.of hE
  have : k' = k := by omega
  subst this
  have : i' = i := by omega
  subst this
  have h1 := f.hd.hs
  rw [h.hs] at h1
  injection h1 with h1
  injection h1 with _ _ h1
  have : a' = a := by omega
  subst this
  have hb : b' = b := objs_inj h.rt.al (List.mem_of_getElem? f.hd.ho) (List.mem_of_getElem? h.ho) (by rw [f.hd.hat, h.hat])
  subst hb
  have hn := objs_idx h.rt.al f.hd.ho h.ho
  subst hn
  have hq : q' = q := by have := f.hd.hty; have := h.hty; omega
  subst hq
  have ht : t' = t := by have h1 := f.hd.hT; have h2 := h.hT; rw [h1] at h2; injection h2
  subst ht
  exact ⟨kd, x, f⟩
theorem Fd.lt (f : Fd l k a nn q i sg b t kd x) : a + 2 + i < l.length := (List.getElem?_eq_some_iff.1 f.hx).1
theorem Fd.fdr (f : Fd l k a nn q i sg b t kd x) : FdR (O19 l) kd x := by
  refine ⟨fun h2 => ?_, f.ref⟩
  have hb := List.mem_of_getElem? f.hd.ho
  have := f.hd.rt.good 10 (by omega) (by omega) b hb i (by rw [f.hd.hkB]; exact f.hi) (by rw [f.hd.hkB, List.getD_eq_getElem?_getD, f.hkd]; exact h2)
  have hf : fw l b i = x := by unfold fw; rw [f.hd.hat, Int.toNat_natCast, List.getD_eq_getElem?_getD, f.hx]; rfl
  rw [hf] at this; exact this
/-- another field -/
theorem Fd.put (f : Fd l k a nn q i sg b t kd x) {y : UInt64} (hy : FdR (O19 l) kd y) :
    Fd (l.set (a + 2 + i) y) k a nn q i sg b t kd y ∧ seen (l.set (a + 2 + i) y) = putF (seen l) nn i (fldV (O19 l) kd y) ∧ O19 (l.set (a + 2 + i) y) = O19 l ∧ slots (l.set (a + 2 + i) y) = slots l ∧ T19 (l.set (a + 2 + i) y) = T19 l := by
  have rt := f.hd.rt
  have hbm := List.mem_of_getElem? f.hd.ho
  have hik : i < (kindsB (T19 l) b).length := by rw [f.hd.hkB]; exact f.hi
  have hkk : (kindsB (T19 l) b).getD i 0 = kd := by rw [f.hd.hkB, List.getD_eq_getElem?_getD, f.hkd]; rfl
  have hp : a + 2 + i = b.at_.toNat + 2 + i := by rw [f.hd.hat, Int.toNat_natCast]
  obtain ⟨rt', hsn⟩ := seen_put rt f.hd.ho hik hkk hp hy
  have fs := rt.fs hbm y hik hp
  have eO : O19 (l.set (a + 2 + i) y) = O19 l := by unfold O19; rw [fs.alL]
  obtain ⟨q', t', h'⟩ := Hd.mk2 (k := k) (sg := sg) (a := a) rt' f.hd.hk (by rw [fs.slL]; exact f.hd.hs) (by rw [eO]; exact f.hd.ho) f.hd.hat
  have hq : q' = q := by have := h'.hty; have := f.hd.hty; omega
  subst hq
  have ht : t' = t := by have h1 := h'.hT; have h2 := f.hd.hT; rw [fs.tyT, h2] at h1; injection h1 with h1; exact h1.symm
  subst ht
  obtain ⟨kd', x', f'⟩ := Fd.mk2 h' f.hi
  have hkd : kd' = kd := by have h1 := f'.hkd; rw [f.hkd] at h1; injection h1 with h1; exact h1.symm
  have hx : x' = y := by have h1 := f'.hx; rw [List.getElem?_set_self f.lt] at h1; injection h1 with h1; exact h1.symm
  subst hkd; subst hx
  exact ⟨f', hsn, eO, fs.slL, fs.tyT⟩
theorem Fd.gE (f : Fd l k a nn q i sg b t kd x) : giE l k sg i = if kd.toNat = 3 then 42 else 0 := by rw [giE, if_pos f.hE, f.hK]
theorem Fd.sL (f : Fd l k a nn q i sg b t kd x) (h3 : kd.toNat ≠ 3) (v : UInt64) : siL l k sg i v = [(((a + 2 + i : Nat) : Int), setV kd v)] := by rw [siL, f.gE, if_neg h3, if_pos rfl, f.hAt, f.hK]
theorem setV_fdr {O : List Hb} (h3 : kd.toNat ≠ 3) (v : UInt64) : FdR O kd (setV kd v) := ⟨(setV_ok (N := 0) h3).1, fun h => absurd h h3⟩
theorem setV_same {O : List Hb} (h : FdR O kd x) : setV kd x = x := by
  unfold setV
  rw [if_neg (fun e => e.2 (h.1 e.1))]
/-- what is written last counts -/
theorem Fd.last (f : Fd l k a nn q i sg b t kd x) (h3 : kd.toNat ≠ 3) (v : UInt64) :
    Fd (made l (siL l k sg i v)) k a nn q i sg b t kd (setV kd v) ∧ (∀ u, made (made l (siL l k sg i v)) (siL (made l (siL l k sg i v)) k sg i u) = made l (siL l k sg i u)) ∧ made (made l (siL l k sg i v)) (siL (made l (siL l k sg i v)) k sg i x) = l ∧ made l (siL l k sg i x) = l := by
  have e1 : made l (siL l k sg i v) = l.set (a + 2 + i) (setV kd v) := by rw [f.sL h3, made_one f.lt]
  obtain ⟨f', _⟩ := f.put (setV_fdr h3 v)
  rw [e1]
  refine ⟨f', fun u => ?_, ?_, ?_⟩
  · rw [f'.sL h3, made_one f'.lt, f.sL h3, made_one f.lt, List.set_set]
  · rw [f'.sL h3, made_one f'.lt, setV_same f.fdr, set_back f.hx]
  · rw [f.sL h3, made_one f.lt, setV_same f.fdr]
    have := set_back (y := x) f.hx
    rw [List.set_set] at this; exact this
end
theorem slOf_ug (O : List Hb) (s : Sl) : (slOf O s).used = s.used ∧ (slOf O s).gen = s.gen := by
  unfold slOf
  by_cases hu : s.used = true
  · rw [if_pos hu, hu]; exact ⟨rfl, rfl⟩
  · rw [if_neg hu]; exact ⟨rfl, rfl⟩
/-- what the model asks is what the image asks -/
theorem right_map {S : List Sl} {O : List Hb} (sl g : Int) : rightErr (S.map (slOf O)) sl g = rightErr S sl g := by
  unfold rightErr
  rw [List.length_map]
  by_cases h : 0 ≤ sl ∧ sl < S.length
  · rw [if_pos h, if_pos h]
    have hk : sl.toNat < S.length := by omega
    rw [List.getD_eq_getElem?_getD, List.getElem?_map, List.getD_eq_getElem?_getD, List.getElem?_eq_getElem hk]
    simp only [Option.map_some, Option.getD_some]
    simp only [(slOf_ug O _).1, (slOf_ug O _).2]
  · rw [if_neg h, if_neg h]
theorem next_map {O : List Hb} : ∀ (S : List Sl) (j : Nat), nextFrom (S.map (slOf O)) j = nextFrom S j
  | [], j => rfl
  | s :: S, j => by
    rw [List.map_cons, nextFrom, nextFrom, next_map S]
    rw [(slOf_ug O s).1, (slOf_ug O s).2]
section
variable {l : List UInt64}
theorem asked_seen (h : Rt l) (sl g : Int) : asked (seen l) sl g = askI l sl g := by
  rw [asked, if_pos (seen_chk h), askI, if_pos h.chk, resErr, if_pos h.sl]
  exact right_map sl g
end
section
variable {l : List UInt64} {k a nn q i : Nat} {sg : Int} {b : Hb} {t : List UInt8} {kd : UInt8} {x : UInt64}
theorem Fd.fld (f : Fd l k a nn q i sg b t kd x) : fld (seen l) k i = fldV (O19 l) kd x := by
  unfold L20.fld
  rw [f.hd.own, f.hd.ob, Int.toNat_natCast]
  show (obFs l (T19 l) (O19 l) b).getD i 0 = _
  have hik : i < (kindsB (T19 l) b).length := by rw [f.hd.hkB]; exact f.hi
  have hkk : (kindsB (T19 l) b).getD i 0 = kd := by rw [f.hd.hkB, List.getD_eq_getElem?_getD, f.hkd]; rfl
  have hf : fw l b i = x := by unfold fw; rw [f.hd.hat, Int.toNat_natCast, List.getD_eq_getElem?_getD, f.hx]; rfl
  rw [List.getD_eq_getElem?_getD, obFs_get hik, hkk, hf]; rfl
end
end Go.Proofs.Ytmbokdnndlnjkaa.L19
namespace Go.Proofs.Ytmbokdnndlnjkaa.L19
open L02 L07 L13 L14 L15 L16 L18 L20
/-- the change that drops a handle -/
def diL (l : List UInt64) (sl g : Int) : List (Int × UInt64) := if askI l sl g = 0 then [(dropAt l sl g, dropVal l sl g)] else []
/-- the error and the change that free an object -/
def fiE (l : List UInt64) (sl g : Int) : Int := if askI l sl g = 0 then (if Busy (seen l) sl (own (seen l) sl) then 45 else 0) else askI l sl g
def fiB (l : List UInt64) (sl g : Int) : Hb := around l (res l sl g)
def fiL (l : List UInt64) (sl g : Int) : List (Int × UInt64) := if fiE l sl g = 0 then [(dropAt l sl g, dropVal l sl g), ((fiB l sl g).at_, L14.word (fiB l sl g))] else []
theorem freeE_seen {l : List UInt64} (h : Rt l) (sl g : Int) : freeE (seen l) sl g = fiE l sl g := by
  unfold freeE fiE; rw [asked_seen h]
/-- the image behind a dropped handle -/
theorem Hd.drop {l : List UInt64} {k a nn q : Nat} {sg : Int} {b : Hb} {t : List UInt8} (h : Hd l k a nn q sg b t) :
    diL l k sg = [(((112 + k : Nat) : Int), pk ⟨sg, false, 0⟩)] ∧ made l (diL l k sg) = l.set (112 + k) (pk ⟨sg, false, 0⟩) ∧ Rt (made l (diL l k sg)) ∧ seen (made l (diL l k sg)) = dropM (seen l) k sg ∧
      O19 (made l (diL l k sg)) = O19 l ∧ T19 (made l (diL l k sg)) = T19 l ∧ allL (made l (diL l k sg)) = allL l ∧ slots (made l (diL l k sg)) = (slots l).set k ⟨sg, false, 0⟩ := by
  have hr := seen_slot h.rt (List.mem_of_getElem? h.hs)
  have hr0 : Right ⟨sg, false, 0⟩ := ⟨hr.1, hr.2.1, fun _ => rfl, fun e => by cases e⟩
  have e1 : diL l k sg = [(((112 + k : Nat) : Int), pk ⟨sg, false, 0⟩)] := by
    unfold diL; rw [if_pos h.hask, dropAt, dropVal, if_pos h.hr, if_pos h.hr]
    congr 2
  have e2 : made l (diL l k sg) = l.set (112 + k) (pk ⟨sg, false, 0⟩) := by rw [e1, made_one (by have := h.rt.sz.1; have := h.hk; omega)]
  obtain ⟨r1, r2, r3, r4, r5⟩ := seen_slot_set h.rt h.hk hr0 (fun e => by cases e)
  rw [e2]
  refine ⟨e1, rfl, r1, ?_, r3, r4, r5, ?_⟩
  · rw [r2, dropM, if_pos (by rw [asked_seen h.rt]; exact h.hask), Int.toNat_natCast]
    rfl
  · rw [slots_set _ h.hk, spl_pk hr0]
/-- what is busy, by the image alone -/
theorem Hd.busy {l : List UInt64} {k a nn q : Nat} {sg : Int} {b : Hb} {t : List UInt8} (h : Hd l k a nn q sg b t) :
    Busy (seen l) k (L20.own (seen l) k) ↔ (∃ i s, i ≠ k ∧ (slots l)[i]? = some s ∧ s.used = true ∧ s.at_ = a) ∨ ∃ c ∈ O19 l, c.at_ ≠ a ∧ ∃ j, j < (kindsB (T19 l) c).length ∧ ((kindsB (T19 l) c).getD j 0).toNat = 3 ∧ ((fw l c j).toNat : Int) = a := by
  have hOl := objs_len h.rt.al
  have hii : idx (O19 l) (a : Int) = some nn := by rw [← h.hat]; exact idx_at h.rt.al h.ho
  unfold Busy
  rw [h.own]
  refine or_congr ?_ ?_
  · constructor
    · rintro ⟨i, h1, h2, h3, h4⟩
      have h1' : i < (slots l).length := by have h9 : i < ((slots l).map (slOf (O19 l))).length := h1; rwa [List.length_map] at h9
      have hs : (slots l)[i]? = some (slots l)[i] := List.getElem?_eq_getElem h1'
      have hg : (seen l).slots.getD i .none = slOf (O19 l) (slots l)[i] := by
        show ((slots l).map (slOf (O19 l))).getD i .none = _
        rw [List.getD_eq_getElem?_getD, List.getElem?_map, hs]; rfl
      rw [hg] at h3 h4
      rw [(slOf_ug _ _).1] at h3
      refine ⟨i, _, by omega, hs, h3, ?_⟩
      obtain ⟨j, c, j1, j2, j3, _⟩ := idx_of (h.rt.slots _ (List.mem_of_getElem? hs) h3)
      unfold slOf at h4
      rw [if_pos h3, j1] at h4
      have : j = nn := by have : (j : Int) = nn := h4; omega
      subst this
      exact idx_inj j1 hii
    · rintro ⟨i, s, h1, hs, h3, h4⟩
      have hg : (seen l).slots.getD i .none = slOf (O19 l) s := by
        show ((slots l).map (slOf (O19 l))).getD i .none = _
        rw [List.getD_eq_getElem?_getD, List.getElem?_map, hs]; rfl
      refine ⟨i, ?_, by omega, ?_, ?_⟩
      · show i < ((slots l).map (slOf (O19 l))).length
        rw [List.length_map]; exact (List.getElem?_eq_some_iff.1 hs).1
      · rw [hg, (slOf_ug _ _).1, h3]
      · rw [hg]; unfold slOf; rw [if_pos h3, h4, hii]
  · have hobj : ∀ i, i < (O19 l).length → ∃ c, (O19 l)[i]? = some c ∧ L20.ob (seen l) i = obOf l (T19 l) (O19 l) c := fun i hi => by
      have hc : (O19 l)[i]? = some (O19 l)[i] := List.getElem?_eq_getElem hi
      refine ⟨_, hc, ?_⟩
      unfold L20.ob
      show ((O19 l).map _).getD i _ = _
      rw [List.getD_eq_getElem?_getD, List.getElem?_map, hc]; rfl
    have key : ∀ c ∈ O19 l, ∀ j, j < (kindsB (T19 l) c).length → (isRef (seen l) (obOf l (T19 l) (O19 l) c) j nn ↔ ((kindsB (T19 l) c).getD j 0).toNat = 3 ∧ ((fw l c j).toNat : Int) = a) := fun c hc j hj => by
      unfold isRef
      show ((kindsB (T19 l) c).getD j 0).toNat = 3 ∧ ((obFs l (T19 l) (O19 l) c).getD j 0).toNat = nn + 1 ↔ _
      rw [List.getD_eq_getElem?_getD (l := obFs l (T19 l) (O19 l) c), obFs_get hj]
      refine and_congr_right fun h3 => ?_
      show (fldV (O19 l) _ (fw l c j)).toNat = nn + 1 ↔ _
      rw [fldV_ref h3]
      have h11 : fw l c j = 0 ∨ IsObj (O19 l) (fw l c j).toNat := h.rt.good 11 (by omega) (by omega) c hc j hj h3
      rcases h11 with h0 | h0
      · rw [h0, refV_none (no_zero h.rt.al (objs_low h.rt.al))]
        have := h.ha1
        constructor <;> intro e <;> simp at e <;> omega
      · obtain ⟨x, y, j1, j2, j3, j4⟩ := idx_of h0
        rw [refV_some j1, UInt64.toNat_ofNat', Nat.mod_eq_of_lt (by omega)]
        constructor
        · intro e
          have : x = nn := by omega
          subst this
          exact idx_inj j1 hii
        · intro e
          rw [e, hii] at j1; injection j1 with j1; omega
    constructor
    · rintro ⟨i, h1, h2, j, h3, h4⟩
      have h1' : i < (O19 l).length := by have h9 : i < ((O19 l).map (obOf l (T19 l) (O19 l))).length := h1; rwa [List.length_map] at h9
      obtain ⟨c, hc, ho⟩ := hobj i h1'
      rw [ho] at h3 h4
      have h3' : j < (kindsB (T19 l) c).length := by rw [← obFs_len l (T19 l) (O19 l) c]; exact h3
      have := (key c (List.mem_of_getElem? hc) j h3').1 h4
      refine ⟨c, List.mem_of_getElem? hc, fun e => h2 ?_, j, h3', this⟩
      have hcb := objs_inj h.rt.al (List.mem_of_getElem? hc) (List.mem_of_getElem? h.ho) (by rw [e, h.hat])
      subst hcb
      exact objs_idx h.rt.al hc h.ho
    · rintro ⟨c, hc, h2, j, h3, h4⟩
      obtain ⟨i, hi⟩ := List.getElem?_of_mem hc
      have h1 := (List.getElem?_eq_some_iff.1 hi).1
      obtain ⟨c', hc', ho⟩ := hobj i h1
      have : c' = c := by rw [hi] at hc'; injection hc' with e; exact e.symm
      subst this
      refine ⟨i, ?_, fun e => h2 ?_, j, ?_, ?_⟩
      · show i < ((O19 l).map _).length
        rw [List.length_map]; exact h1
      · subst e; rw [h.ho] at hi; injection hi with hi; rw [← hi, h.hat]
      · rw [ho]; show j < (obFs l (T19 l) (O19 l) c').length; rw [obFs_len]; exact h3
      · rw [ho]; exact (key c' hc j h3).2 h4
/-- the index of an object among all blocks -/
theorem Hd.block {l : List UInt64} {k a nn q : Nat} {sg : Int} {b : Hb} {t : List UInt8} (h : Hd l k a nn q sg b t) : ∃ i, objIdx (allL l) a 0 = some i ∧ (allL l)[i]? = some b ∧ arErr l a = 0 ∧ around l a = becomes (allL l) i := by
  obtain ⟨hbL, hbk⟩ := objs_mem.1 (List.mem_of_getElem? h.ho)
  cases h1 : objIdx (allL l) (a : Int) 0 with
  | none => exact absurd ⟨h.hat, hbk⟩ (objIdx_none.1 h1 b hbL)
  | some i =>
    obtain ⟨_, c, h2, h3, h4⟩ := objIdx_some h1
    rw [Nat.sub_zero] at h2
    have hc : c = b := objs_inj h.rt.al (objs_mem.2 ⟨List.mem_of_getElem? h2, h4⟩) (List.mem_of_getElem? h.ho) (by rw [h3, h.hat])
    subst hc
    have he : arErr l a = 0 := by unfold arErr; rw [if_pos h.rt.al, h1]; rfl
    exact ⟨i, rfl, h2, he, by unfold around; rw [if_pos he, h1]; rfl⟩
/-- an object freed -/
theorem Hd.free {l : List UInt64} {k a nn q : Nat} {sg : Int} {b : Hb} {t : List UInt8} (h : Hd l k a nn q sg b t) (h0 : fiE l k sg = 0) :
    ∃ (i : Nat) (m : Hb) (p : Nat), (allL l)[i]? = some b ∧ m = becomes (allL l) i ∧ fiB l k sg = m ∧ m.at_ = p ∧ 128 ≤ p ∧ BkOk m ∧ m.at_ + m.size ≤ l.length ∧ fiL l k sg = [(((112 + k : Nat) : Int), pk ⟨sg, false, 0⟩), ((p : Int), L14.word m)] ∧
      made l (fiL l k sg) = (l.set (112 + k) (pk ⟨sg, false, 0⟩)).set p (L14.word m) ∧ Rt (made l (fiL l k sg)) ∧ seen (made l (fiL l k sg)) = freeM (seen l) k sg ∧ slots (made l (fiL l k sg)) = (slots l).set k ⟨sg, false, 0⟩ ∧ T19 (made l (fiL l k sg)) = T19 l ∧
      (∃ P M S, allL l = P ++ (M ++ S) ∧ b ∈ M ∧ (∀ c ∈ M, c ≠ b → c.kind = 2) ∧ allL (made l (fiL l k sg)) = P ++ ([{ m with next := (made l (fiL l k sg)).getD (p + 1) 0 }] ++ S)) := by
  obtain ⟨d1, d2, d3, d4, d5, d6, d7, d8⟩ := h.drop
  obtain ⟨i, i1, i2, i3, i4⟩ := h.block
  rw [d2] at d3 d4 d5 d6 d7 d8
  have hnb : ¬ Busy (seen l) k (L20.own (seen l) k) := fun hb => by
    unfold fiE at h0; rw [if_pos h.hask, if_pos hb] at h0; omega
  rw [h.busy] at hnb
  obtain ⟨hn1, hn2⟩ := not_or.1 hnb
  obtain ⟨l1, hl1⟩ : ∃ l1, l1 = l.set (112 + k) (pk ⟨sg, false, 0⟩) := ⟨_, rfl⟩
  rw [← hl1] at d3 d4 d5 d6 d7 d8 d2
  have hlen : l1.length = l.length := by rw [hl1, List.length_set]
  have hbk : b.kind = 1 := (objs_mem.1 (List.mem_of_getElem? h.ho)).2
  obtain ⟨m, hm⟩ : ∃ m, m = becomes (allL l) i := ⟨_, rfl⟩
  have hfw : ∀ c ∈ O19 l, ∀ j, fw l1 c j = fw l c j := fun c hc j => by
    have := objs_low h.rt.al c hc
    have := h.hk
    rw [hl1]; exact fw_set (by omega)
  obtain ⟨r1, r2, r3, r4, r5⟩ := seen_free d3 (n := nn) (i := i) (b := b) (by rw [d5]; exact h.ho) (by rw [d7]; exact i2) (fun s hs hu e => by
    rw [d8] at hs
    obtain ⟨j, hj⟩ := List.getElem?_of_mem hs
    by_cases hjk : j = k
    · subst hjk
      rw [List.getElem?_set_self (by rw [slots_len' h.rt.sl]; exact h.hk)] at hj
      injection hj with hj; subst hj; cases hu
    · rw [List.getElem?_set_ne (fun e => hjk e.symm)] at hj
      exact hn1 ⟨j, s, hjk, hj, hu, by rw [e, h.hat]⟩) (fun c hc hcb j hj h3 e => by
    rw [d5] at hc
    rw [d6] at hj h3
    rw [hfw c hc j] at e
    refine hn2 ⟨c, hc, fun e2 => hcb (objs_inj h.rt.al hc (List.mem_of_getElem? h.ho) (by rw [e2, h.hat])), j, hj, h3, by rw [e, h.hat]⟩) (m := m) (by rw [hm, d7])
  obtain ⟨P, lo, hi, S', p, q', hc, e1, e2, hok, _⟩ := merge_part h.rt.al i2 hbk
  rw [← hm] at e1 e2 hok
  have hpn : m.at_.toNat = p := by omega
  rw [hpn] at r1 r2 r3
  have hfB : fiB l k sg = m := by unfold fiB; rw [h.hres, i4, hm]
  have eL : fiL l k sg = [(((112 + k : Nat) : Int), pk ⟨sg, false, 0⟩), ((p : Int), L14.word m)] := by
    have : diL l k sg = [(dropAt l k sg, dropVal l k sg)] := by unfold diL; rw [if_pos h.hask]
    rw [d1] at this
    injection this with this _
    unfold fiL
    rw [if_pos h0, ← this, hfB, e1]
  have eM : made l (fiL l k sg) = l1.set p (L14.word m) := by
    rw [eL]
    unfold made
    have s1 : put1 l (((112 + k : Nat) : Int), pk ⟨sg, false, 0⟩) = l1 := by rw [put1_set (by have := h.rt.sz.1; have := h.hk; omega), hl1]
    show put1 (put1 l _) _ = _
    rw [s1, put1_set (by have hb := hok.bounds; omega)]
  rw [eM]
  have hf : Front l1 (l1.set p (L14.word m)) := front_set (by omega)
  refine ⟨i, m, p, i2, hm, hfB, e1, by omega, hok, by rw [← hlen]; exact r5, eL, by rw [hl1], r1, ?_, by rw [hf.open_.2, d8], by rw [hf.types, d6], ?_⟩
  · rw [r2, d4]
    have ha : asked (seen l) k sg = 0 := by rw [asked_seen h.rt]; exact h.hask
    have hE : freeE (seen l) k sg = 0 := by rw [freeE_seen h.rt]; exact h0
    rw [freeM, if_pos hE, dropM, if_pos ha, h.own]
    congr 2
  · obtain ⟨P, M, S, x1, x2, x3, x4⟩ := r3
    rw [d7] at x1
    exact ⟨P, M, S, x1, x2, x3, x4⟩
end Go.Proofs.Ytmbokdnndlnjkaa.L19
namespace Go.Proofs.Ytmbokdnndlnjkaa.L19
open L02 L05 L06 L07 L13 L14 L15 L18
/-- words written from an address on -/
def putW (l : List UInt64) (a : Nat) : List UInt64 → List UInt64
  | [] => l
  | x :: xs => putW (l.set a x) (a + 1) xs
theorem putW_len : ∀ (xs : List UInt64) (l : List UInt64) (a : Nat), (putW l a xs).length = l.length
  | [], l, a => rfl
  | x :: xs, l, a => by rw [putW, putW_len xs]; simp
/-- blocks laid one behind the other, as far as there is room -/
def laidF (n : Nat) : List UInt64 → Nat → List Hb → List UInt64
  | l, _, [] => l
  | l, a, b :: L => if (a : Int) + b.size ≤ n then laidF n ((l.set a (L14.word b)).set (a + 1) b.next) (a + b.size.toNat) L else l
def laid (n : Nat) (L : List Hb) : List UInt64 := laidF n (List.replicate n 0) 128 L
theorem laidF_len {n : Nat} : ∀ (L : List Hb) (l : List UInt64) (a : Nat), (laidF n l a L).length = l.length
  | [], _, _ => rfl
  | b :: L, l, a => by
    rw [laidF]
    split
    · rw [laidF_len L]; simp
    · rfl
theorem laid_len (n : Nat) (L : List Hb) : (laid n L).length = n := by rw [laid, laidF_len]; simp
def freeB (n : Int) : Hb := ⟨0, n, 2, 0, false, 0⟩
end Go.Proofs.Ytmbokdnndlnjkaa.L19
namespace Go.Proofs.Ytmbokdnndlnjkaa.L19
open L02 L05 L06 L07 L13 L14 L15 L16 L18 L20
theorem putW_eq : ∀ (m l : List UInt64) (a : Nat), a + m.length ≤ l.length → putW l a m = l.take a ++ (m ++ l.drop (a + m.length))
  | [], l, a, h => by simp [putW]
  | x :: xs, l, a, h => by
    rw [List.length_cons] at h
    rw [putW, putW_eq xs _ _ (by rw [List.length_set]; omega), List.length_cons]
    have h1 : (l.set a x).take (a + 1) = l.take a ++ [x] := by
      rw [List.take_add_one, List.take_set_of_le (Nat.le_refl a), List.getElem?_set_self (by omega)]; rfl
    have h2 : (l.set a x).drop (a + 1 + xs.length) = l.drop (a + 1 + xs.length) := by
      rw [List.drop_set_of_lt (by omega)]
    rw [h1, h2, List.append_assoc, List.cons_append, List.nil_append, show a + 1 + xs.length = a + (xs.length + 1) by omega]
    rfl
/-- an image of 256 words with one type -/
def base22 (L : List Hb) (t : List UInt8) : List UInt64 := putW (putW (putW (laid 256 L) 0 (wordsOf 256 1)) 8 (wordsOf 256 1)) 96 [w0 t, w1 t]
def ex22 : List UInt64 := base22 [freeB 128] [1]
end Go.Proofs.Ytmbokdnndlnjkaa.L19
namespace Go.Proofs.Ytmbokdnndlnjkaa
open Go.RowKit L01 L02 L05 L06 L07 L13 L14 L15 L18 L19
theorem fold_step {l : List UInt64} {E : List (Int × UInt64)} {j : Nat} {e : Int × UInt64} (h : E[j]? = some e) : (E.take (j + 1)).foldl put1 l = put1 ((E.take j).foldl put1 l) e := by
  rw [List.take_add_one, h, List.foldl_append]; rfl
theorem fold_len (l : List UInt64) (E : List (Int × UInt64)) : (E.foldl put1 l).length = l.length := by
  induction E generalizing l with
  | nil => rfl
  | cons e F ih => rw [List.foldl_cons, ih, put1_len]
set_option maxRecDepth 100000 in
set_option maxHeartbeats 2000000 in
theorem Made_any (v ev : Value) (l : List UInt64) (E : List (Int × UInt64)) (hl : l.length ≤ 1048576) (w : World) (h : Words w v l) (he : Ents w ev E) :
    Calls Try.prog 23 #[v, ev] w fun e w' => ∃ y, e = .returned y ∧ OwnW w' w.heap.size 24 y (made l E) ∧ Below w.heap.size w w' := by
  have B : Below w.heap.size w w := Below.refl _ _
  have H := Lib.hid h; have HE := Lib.hid he; have HL := Lib.hid hl
  have le1 := Rd.len he Try.underlying30
  have le2 := Rd.len_le he
  obtain ⟨N, hN⟩ : ∃ N, N = E.length := ⟨_, rfl⟩
  rw [← hN] at le1 le2
  obtain ⟨M, hM⟩ : ∃ M, M = l.length := ⟨_, rfl⟩
  have HN := Lib.hid hN; have HM := Lib.hid hM
  have hM1 : M ≤ 1048576 := by omega
  clear h he hl hN hM
  go_enter Try.func23, Try.ntmps23
  go_wp2_with fail
  refine (Twin_any v l _ (H.out.below B) HL.out).mono ?_
  rintro e w1 ⟨y, rfl, oy, b⟩
  replace B := B.trans (b.mono B.size)
  have HB := Lib.hid (And.intro (own_mono oy (Nat.le_refl _)) B)
  clear oy b B
  go_wp2
  go_loopg [6] N (fun g i wr => ∃ j : Nat, j ≤ N ∧ j ≤ 100 ∧ g = N - j ∧ i = .int .i64 j ∧ Hid (OwnW wr w.heap.size 24 y ((E.take j).foldl put1 l) ∧ Below w.heap.size w wr))
  case atStart => exact ⟨0, by omega, by omega, by omega, rfl, HB⟩
  case round =>
    clear HB
    obtain ⟨j, hj, hj2, rfl, rfl, hh⟩ := hrel
    obtain ⟨oy, B⟩ := hh.out
    clear hh
    by_cases hlt : j < N
    · by_cases h100 : j < 100
      · obtain ⟨b, o, s1, s2, ia, m0, m1, hs⟩ := (HE.out.below B).at_ (k := j) (by rw [← HN.out]; exact hlt)
        have ly := Rd.len oy.rd Try.underlying22
        have hlen : ((E.take j).foldl put1 l).length = M := by rw [fold_len, HM.out]
        rw [hlen] at ly
        have hst := fold_step (l := l) hs.out
        by_cases h0 : 0 ≤ s1
        · by_cases h1 : s1 < M
          · obtain ⟨ad, u0, ia2, ca, fa, hb, -, hset⟩ := own_at (P := Try.prog) oy Try.underlying22 one_u64 (k := s1) h0 (by rw [hlen]; exact h1)
            have HR := Lib.hid (show OwnW (wr.setCell ad (.int .u64 s2.toNat)) w.heap.size 24 y ((E.take (j + 1)).foldl put1 l) ∧ Below w.heap.size w (wr.setCell ad (.int .u64 s2.toNat)) from by
              refine ⟨?_, B.setCell (p := ad) hb _⟩
              rw [hst, put1, if_pos ⟨h0, by rw [hlen]; exact h1⟩]
              exact OwnW.set (hset (.int .u64 s2.toNat)))
            have g1 : decide (s1 < (M : Int)) = true := decide_eq_true h1
            have g0 : decide (0 ≤ s1) = true := decide_eq_true h0
            clear oy hlen hst hset hs hb B
            go_upto_region 6 with (fail)
            refine wp_region_qtail 12 (by kernel_rfl) (by kernel_rfl) ?_
            simp only [List.take_succ_cons, List.take_zero, List.drop_succ_cons, List.drop_zero]
            iterate 12 (go_big_quiet_step (fail))
            refine wpQuiet_nil ?_
            go_wp2
            go_roundg (N - (j + 1))
            case measure => omega
            case rel => exact ⟨j + 1, by omega, by omega, rfl, by go_num, Lib.hid ⟨HR.out.1, HR.out.2.drew⟩⟩
          · have HR := Lib.hid (show OwnW wr w.heap.size 24 y ((E.take (j + 1)).foldl put1 l) ∧ Below w.heap.size w wr from by
              refine ⟨?_, B⟩
              rw [hst, put1, if_neg (fun h => h1 (by have h9 : s1 < _ := h.2; rw [hlen] at h9; exact h9))]
              exact oy)
            clear oy hlen hst hs B
            go_wp2
            go_roundg (N - (j + 1))
            case measure => omega
            case rel => exact ⟨j + 1, by omega, by omega, rfl, by go_num, HR⟩
        · have HR := Lib.hid (show OwnW wr w.heap.size 24 y ((E.take (j + 1)).foldl put1 l) ∧ Below w.heap.size w wr from by
            refine ⟨?_, B⟩
            rw [hst, put1, if_neg (fun h => h0 h.1)]
            exact oy)
          clear oy hlen hst hs B
          go_wp2
          go_roundg (N - (j + 1))
          case measure => omega
          case rel => exact ⟨j + 1, by omega, by omega, rfl, by go_num, HR⟩
      · obtain rfl : j = 100 := by omega
        have HR := Lib.hid (show OwnW wr w.heap.size 24 y (made l E) ∧ Below w.heap.size w wr from ⟨oy, B⟩)
        clear oy B
        go_wp2
        go_ret
        exact ⟨_, rfl, HR.out⟩
    · have e1 : E.take j = E.take 100 := by
        rw [List.take_of_length_le (by rw [← HN.out]; omega), List.take_of_length_le (by rw [← HN.out]; omega)]
      rw [e1] at oy
      have HR := Lib.hid (show OwnW wr w.heap.size 24 y (made l E) ∧ Below w.heap.size w wr from ⟨oy, B⟩)
      obtain rfl : j = N := by omega
      clear oy B e1
      go_wp2
      go_ret
      exact ⟨_, rfl, HR.out⟩
end Go.Proofs.Ytmbokdnndlnjkaa
namespace Go.Proofs.Ytmbokdnndlnjkaa
open Go.RowKit L01 L02 L05 L14 L15
/-- a word of a slice of the call's own -/
theorem OwnW.at_ {w : World} {base : Nat} {v : Value} {l : List UInt64} (h : OwnW w base 24 v l) {k : Nat} (hk : k < l.length) :
    ∃ ad, (∀ W, (Instr.indexAt 22 v (.int .i64 (k : Int))).run Try.prog W = .ok (.pointer (some ad)) W) ∧ w.cell? ad = some (.int .u64 (l.getD k 0).toNat) ∧ w.frozen? ad = false ∧ base ≤ ad.block ∧ v.ownBlock = some ad.block ∧ ∀ x : UInt64, OwnW (w.setCell ad (.int .u64 x.toNat)) base 24 v (l.set k x) := by
  obtain ⟨g, cap, cur, rfl, hB, hg, hnc, hcm, hcs, htake⟩ := own_form h (by omega)
  have hrd := Rd.of_own h
  have hix := fun W => Rd.ixN hrd Try.underlying22 one_u64 hk W
  have hcell := Rd.cell hrd (j := k) (u := .int .u64 (l.getD k 0).toNat) (by rw [List.getElem?_map, List.getElem?_eq_getElem hk, List.getD_eq_getElem?_getD, List.getElem?_eq_getElem hk]; rfl)
  have e1 : cellAt (.slice (some ⟨g, 0, none⟩) l.length cap) (k * 1) = ⟨g, k, none⟩ := by simp [cellAt]
  have e2 : cellAt (.slice (some ⟨g, 0, none⟩) l.length cap) k = ⟨g, k, none⟩ := by simp [cellAt]
  rw [e2] at hcell
  exact ⟨⟨g, k, none⟩, fun W => by rw [← e1]; exact hix W, hcell, World.ownsRow.frozenAt h k, hB, rfl, fun x => OwnW.set (World.ownsRow.stored h k _).1⟩
set_option maxRecDepth 100000 in
set_option maxHeartbeats 1000000 in
theorem LaidR_any (n : Nat) (v : Value) (L : List Hb) (hL : ∀ b ∈ L, BkOk b) (hl : L.length ≤ 1000) (hn : n ≤ 100000) (w : World) (h : Blks w v L) :
    Calls Try.prog 24 #[.int .i64 n, v] w fun e w' => ∃ x, e = .returned x ∧ OwnW w' w.heap.size 24 x (L19.laid n L) ∧ Below w.heap.size w w' := by
  have B : Below w.heap.size w w := Below.refl _ _
  have H := Lib.hid h; have HL := Lib.hid hL
  have lx := h.len
  obtain ⟨N, hN⟩ : ∃ N, N = L.length := ⟨_, rfl⟩
  rw [← hN] at lx hl
  have HN := Lib.hid hN
  clear h hL hN
  go_enter Try.func24, Try.ntmps24
  go_upto_region 2 with (at_make; refine wpList_makeI (by rfl) rfl (by rfl) (by rfl) Try.underlying22 info_u64 rfl (by omega) (by omega) (by omega) B (Nat.le_refl _) ?_; intro vS wb oS bS bS2)
  have o0 : OwnW wb w.heap.size 24 vS (List.replicate n 0) := OwnW.of oS (by rw [List.map_replicate]; rfl)
  have HO := Lib.hid (And.intro o0 bS)
  clear o0 oS bS bS2 B
  go_wp2
  go_loopg [6, 7] N (fun g av i wr => ∃ (a j : Nat) (l : List UInt64), j ≤ N ∧ a ≤ 2000000 ∧ g = N - j ∧ i = .int .i64 j ∧ av = .int .i64 a ∧ Hid (OwnW wr w.heap.size 24 vS l ∧ Below w.heap.size w wr ∧ L19.laidF n l a (L.drop j) = L19.laid n L ∧ l.length = n))
  case atStart => exact ⟨128, 0, List.replicate n 0, by omega, by omega, by omega, rfl, rfl, Lib.hid ⟨HO.out.1, HO.out.2, rfl, by simp⟩⟩
  case round =>
    obtain ⟨a, j, l, hj, ha, rfl, rfl, rfl, hh⟩ := hrel
    clear HO
    have o1 := hh.out.1
    have B := hh.out.2.1
    have hB0 := B.size
    by_cases hlt : j < N
    · obtain ⟨bb, oo, b, ia, m0, m1, m2, m3, m4, m5, hb, _⟩ := (Blks.below H.out B).at_ (k := j) (by rw [← HN.out]; exact hlt)
      have hbk := HL.out b (List.mem_of_getElem? hb.out)
      have hbd := hbk.bounds
      have hdr : L.drop j = b :: L.drop (j + 1) := List.drop_eq_getElem?_toList_append.trans (by rw [hb.out]; rfl)
      have hst := hh.out.2.2.1
      rw [hdr, L19.laidF] at hst
      have g1 : decide ((j : Int) < 1000) = true := decide_eq_true (by omega)
      have g2 : decide (j < 1000) = true := decide_eq_true (by omega)
      have g3 : decide ((j : Int) < (N : Int)) = true := decide_eq_true (by omega)
      have g4 : decide (j < N) = true := decide_eq_true hlt
      have hwa : IntKind.i64.wrap ((a : Int) + b.size) = (a : Int) + b.size := IntWalk.i64_in _ (by omega)
      by_cases hfit : (a : Int) + b.size ≤ n
      · rw [if_pos hfit] at hst
        have g5 : decide ((a : Int) + b.size ≤ (n : Int)) = true := decide_eq_true hfit
        obtain ⟨x, hx⟩ : ∃ x, x = L14.word b := ⟨_, rfl⟩
        have OT := Lib.hid (fun w => OfHR_any b hbk x hx w)
        rw [← hx] at hst
        have hln : l.length = n := hh.out.2.2.2
        have hw1 : IntKind.i64.wrap ((a : Int) + 1) = (a : Int) + 1 := IntWalk.i64_in _ (by omega)
        have HZ := Lib.hid (And.intro hst hln)
        have hbn : b.size.toNat ≤ 1920 := by omega
        have hfn : a + 2 ≤ n := by omega
        have HB := Lib.hid hb.out
        have HFN := Lib.hid (show a + b.size.toNat ≤ n ∧ 0 ≤ b.size by omega)
        clear hst hx hbk hdr hb hfit hbd
        go_wp2_with fail
        refine (OT.out _).mono ?_
        rintro e wa1 ⟨rfl, b⟩
        replace o1 := o1.below b; replace B := B.trans (b.mono B.size); clear b
        obtain ⟨ad, ia1, ca, fa, hb1, -, hst1⟩ := o1.at_ (k := a) (by rw [HZ.out.2]; omega)
        go_upto_region 7 with (fail)
        refine wp_gen (fun V => OwnW V w.heap.size 24 vS (l.set a x) ∧ Below w.heap.size w V) ⟨hst1 x, B.setCell (p := ad) hb1 _⟩ ?_
        clear o1 B ia1 ca fa hb1 hst1 ia m0 m1 m2 m3 m4 m5
        rintro V2 ⟨o2, B⟩
        obtain ⟨bb, oo, b2, ia, m0, m1, m2, m3, m4, m5, hb, _⟩ := (Blks.below H.out B).at_ (k := j) (by rw [← HN.out]; exact hlt)
        obtain rfl : b2 = b := by have := hb.out; rw [HB.out] at this; injection this with this; exact this.symm
        obtain ⟨ad, ia1, ca, fa, hb1, -, hst1⟩ := o2.at_ (k := a + 1) (by rw [List.length_set, HZ.out.2]; omega)
        clear hb
        have ia2 : ∀ W, (Instr.indexAt 22 vS (.int .i64 ((a : Int) + 1))).run Try.prog W = .ok (.pointer (some ad)) W := ia1
        clear ia1
        go_upto_region 8 with (fail)
        refine wp_gen (fun V => OwnW V w.heap.size 24 vS ((l.set a x).set (a + 1) b2.next) ∧ Below w.heap.size w V) ⟨hst1 b2.next, B.setCell (p := ad) hb1 _⟩ ?_
        clear o2 B ia2 ca fa hb1 hst1 ia m0 m1 m2 m3 m4 m5
        rintro V3 ⟨o3, B⟩
        obtain ⟨bb, oo, b3, ia, m0, m1, m2, m3, m4, m5, hb, _⟩ := (Blks.below H.out B).at_ (k := j) (by rw [← HN.out]; exact hlt)
        obtain rfl : b3 = b2 := by have := hb.out; rw [HB.out] at this; injection this with this; exact this.symm
        clear hb
        have HG := Lib.hid (And.intro o3 (And.intro B (And.intro HZ.out.1 (show ((l.set a x).set (a + 1) b3.next).length = n by rw [List.length_set, List.length_set]; exact HZ.out.2))))
        go_wp2
        go_roundg (N - (j + 1))
        case measure => omega
        case rel => exact ⟨a + b3.size.toNat, j + 1, _, by omega, by have := HFN.out; omega, rfl, by go_num, (by have := HFN.out; congr 1; omega), HG⟩
      · rw [if_neg hfit] at hst
        have g5 : decide ((a : Int) + b.size ≤ (n : Int)) = false := decide_eq_false hfit
        have HZ := Lib.hid hst
        clear hst hbk hdr hb hfit hbd
        go_wp2
        go_ret
        exact ⟨_, rfl, by rw [← HZ.out]; exact o1, B⟩
    · obtain rfl : j = N := by omega
      have hst := hh.out.2.2.1
      rw [HN.out, List.drop_length, L19.laidF] at hst
      have g3 : decide ((j : Int) < (j : Int)) = false := decide_eq_false (by omega)
      have HZ := Lib.hid hst
      clear hst
      go_wp2
      go_ret
      exact ⟨_, rfl, by rw [← HZ.out]; exact o1, B⟩
end Go.Proofs.Ytmbokdnndlnjkaa
